/- AgainPlays: anything that is said, asked for, freed, and that comes: what is refused, what is heard, what lacks. -/
import Derived.Test.YteelldblfmhjlaaDoorFifoPlays
import Derived.Test.YteelldblfmhjlaaDoorAgainS
import Derived.Test.YteelldblfmhjlaaDoorAgain
namespace Go.Proofs.YteelldblfmhjlaaDoor
set_option linter.unusedVariables false
set_option linter.unusedSimpArgs false
open Go.RowKit
/-- The reference's sender at q: it has said A, and let go of F. -/
def SnO (q : Nat) (v : Value) (A : List Int) (F : Nat) : HProp := blk q (.cells #[v, .int .i64 F] 67 (0, 0)) * IntSl v A
def SnP (q : Nat) (A : List Int) (F : Nat) : HProp := hex fun v => SnO q v A F
theorem Own.sn_open {w0 w : World} {q : Nat} {A : List Int} {F : Nat} {R : HProp} (h : Own w0 (SnP q A F * R) w) : ∃ ad cap, A.length ≤ cap ∧ cap ≤ 9223372036854775807 ∧ Own w0 (SnO q (.slice ad A.length cap) A F * R) w := by
  obtain ⟨v, h⟩ := Own.ex h
  have h1 : Own w0 (IntSl v A * (blk q (.cells #[v, .int .i64 F] 67 (0, 0)) * R)) w := h.perm (by unfold SnO; ac_rfl)
  obtain ⟨ad, cap, e, h2, h3, _⟩ := Own.rd h1
  subst e
  exact ⟨ad, cap, h2, by simpa [maxLen] using h3, h⟩
theorem Own.sn_close {w0 w : World} {q : Nat} {v : Value} {A : List Int} {F : Nat} {R : HProp} (h : Own w0 (SnO q v A F * R) w) : Own w0 (SnP q A F * R) w := Own.ex_mk v h
theorem Own.sn_blk {w0 w : World} {q : Nat} {v : Value} {A : List Int} {F : Nat} {R : HProp} (h : Own w0 (SnO q v A F * R) w) : Own w0 (blk q (.cells #[v, .int .i64 F] 67 (0, 0)) * (IntSl v A * R)) w := h.perm (by unfold SnO; ac_rfl)
theorem Own.sn_sl {w0 w : World} {q : Nat} {v : Value} {A : List Int} {F : Nat} {R : HProp} (h : Own w0 (SnO q v A F * R) w) : Own w0 (IntSl v A * (blk q (.cells #[v, .int .i64 F] 67 (0, 0)) * R)) w := h.perm (by unfold SnO; ac_rfl)
theorem Own.sn_facts {w0 w : World} {q : Nat} {v : Value} {A : List Int} {F : Nat} {R : HProp} (h : Own w0 (SnO q v A F * R) w) : w.cell? ⟨q, 0, none⟩ = some v ∧ w.cell? ⟨q, 1, none⟩ = some (.int .i64 F) ∧ ∀ i s, w.frozen? ⟨q, i, s⟩ = false :=
  ⟨by rw [h.sn_blk.cell]; rfl, by rw [h.sn_blk.cell]; rfl, fun i s => h.sn_blk.free i s⟩
theorem Own.sn_free {w0 w : World} {q : Nat} {v : Value} {A : List Int} {F : Nat} {R : HProp} (G : Nat) (h : Own w0 (SnO q v A F * R) w) : Own w0 (SnO q v A G * R) (w.setCell ⟨q, 1, none⟩ (.int .i64 G)) :=
  (h.sn_blk.setCell (i := 1) (v := .int .i64 G)).perm (by unfold SnO; show blk q (.cells #[v, .int .i64 G] _ _) * _ = _; ac_rfl)
/-- A longer list in the place of the old one. -/
theorem Own.sn_put {w0 w : World} {q : Nat} {v v' : Value} {A B : List Int} {F : Nat} {R : HProp} (h : Own w0 (IntSl v' B * (blk q (.cells #[v, .int .i64 F] 67 (0, 0)) * R)) w) : Own w0 (SnO q v' B F * R) (w.setCell ⟨q, 0, none⟩ v') :=
  ((h.perm (star_left_comm _ _ _)).setCell (i := 0) (v := v')).perm (by unfold SnO; show blk q (.cells #[v', .int .i64 F] _ _) * _ = _; ac_rfl)
theorem snNew {w0 w : World} {q : Nat} {R : HProp} (h : Own w0 (blk q (.cells #[.slice none 0 0, .int .i64 0] 67 (0, 0)) * R) w) : Own w0 (SnP q [] 0 * R) w := by
  refine Own.sn_close (v := .slice none 0 0) ?_
  unfold SnO IntSl
  rw [List.length_nil, List.map_nil, Sl_nil, star_emp]
  exact h
/-- What holds behind k steps. -/
def ApI (A : List Int) (F : Nat) (f : Fi) (k : Nat) : Prop := F ≤ A.length ∧ A.length ≤ k ∧ (∀ x ∈ A, 1 ≤ x ∧ x ≤ 30) ∧ fiFit f ∧ (∀ p ∈ f.waits, p.1.1 = 0)
def ApO (sp hp mp fp : Nat) (A : List Int) (F : Nat) (f : Fi) : HProp := SeP sp (sa A F) * (HeP hp f * (SnP mp A F * RfP fp f))
def ApC (w : World) (sp hp mp fp vb k : Nat) (l : List Int) (told : Value) (wx : World) : Prop := told = .bool true ∧ ∃ A F f, ApI A F f (k + 1) ∧ Own w (ApO sp hp mp fp A F f * (Tri vb l * emp)) wx
theorem drain_keys (who : Int) : ∀ (c : Nat) (nx : Int) (m : List ((Int × Int) × Int)), ∀ p ∈ (fiDrain who c nx m).2.2, p ∈ m
  | 0, _, _, p, h => h
  | c + 1, nx, m, p, h => by
    unfold fiDrain at h
    cases hg : mget m (who, nx) with
    | none => rw [hg] at h; exact h
    | some x => rw [hg] at h; exact mem_mdel (drain_keys who c (nx + 1) _ p h)
theorem ap_take {A : List Int} {F : Nat} {f : Fi} {k : Nat} (h : ApI A F f k) (n word : Int) : ApI A F (fiTake f 0 n word) (k + 1) := by
  refine ⟨h.1, by have := h.2.1; omega, h.2.2.1, (fiTake_fit h.2.2.2.1 0 n word).1, fun p hp => ?_⟩
  unfold fiTake at hp
  split at hp
  · simp only at hp
    unfold fiEnd at hp
    rcases mem_mput (drain_keys _ _ _ _ p hp) with h1 | h1
    · exact h.2.2.2.2 p h1
    · rw [h1]
  · exact h.2.2.2.2 p hp
theorem ap_say {A : List Int} {F : Nat} {f : Fi} {k : Nat} (h : ApI A F f k) {word : Int} (hw : isWord word = true) : ApI (A ++ [word]) F f (k + 1) := by
  have hw2 : 1 ≤ word ∧ word ≤ 30 := by simpa [isWord] using hw
  refine ⟨by rw [List.length_append]; have := h.1; omega, by rw [List.length_append, List.length_singleton]; have := h.2.1; omega, fun x hx => ?_, h.2.2.2⟩
  rcases List.mem_append.1 hx with hx | hx
  · exact h.2.2.1 x hx
  · simp at hx; subst hx; exact hw2
theorem ap_later {A : List Int} {F : Nat} {f : Fi} {k : Nat} (h : ApI A F f k) : ApI A F f (k + 1) := ⟨h.1, by have := h.2.1; omega, h.2.2⟩
theorem ap_free {A : List Int} {F : Nat} {f : Fi} {k : Nat} (h : ApI A F f k) {n : Nat} (hn : n ≤ A.length) : ApI A (max F n) f (k + 1) := ⟨by have := h.1; omega, by have := h.2.1; omega, h.2.2⟩
/-- What is not there yet: as the reference asks. -/
theorem ap_has {f : Fi} (h : ∀ p ∈ f.waits, p.1.1 = 0) {n : Int} (hn : fiN f 0 ≤ n) : fiHas f 0 n = f.waits.any (fun p => p.1.2 == n) := by
  unfold fiHas
  have h1 : decide (n < fiN f 0) = false := by simp; omega
  rw [h1, Bool.or_false, Bool.eq_iff_iff]
  constructor
  · intro hs
    obtain ⟨v, hv⟩ := Option.isSome_iff_exists.1 hs
    exact List.any_eq_true.2 ⟨_, mget_mem hv, by simp⟩
  · intro ha
    obtain ⟨p, hp, hq⟩ := List.any_eq_true.1 ha
    have hq' : p.1.2 = n := by simpa using hq
    cases hm : mget f.waits (0, n) with
    | some v => rfl
    | none => exact absurd (Prod.ext (h p hp) hq') (mget_none.1 hm p hp)
end Go.Proofs.YteelldblfmhjlaaDoor
