/- AgreeTwo, plainly: two words, to which all give stamps, and which all settle. -/
import Derived.Test.YtldmdenojpnldaaDoorAgreeP4
namespace Go.Proofs.YtldmdenojpnldaaDoor
set_option linter.unusedVariables false
set_option linter.unusedSimpArgs false
open Go.RowKit Go.Maps
def isTwo (a b v : Int) : Bool := decide (v = a) || decide (v = b)
structure TwP (n : Nat) (a b : Int) (m : Nat) (g : Ag) : Prop where
  ag : AgN n g
  said : ∀ v, agSaid g v = isTwo a b v
  who : ∀ v k, k ∈ whoOf g v → k < (m : Int)
  has : ∀ k : Nat, k < m → (k : Int) ∈ whoOf g a ∧ (k : Int) ∈ whoOf g b
  knew : ∀ k : Nat, agKnew g k = []
theorem agSay_said {g : Ag} {w : Int} (h : agSayErr g w = 0) (v : Int) : agSaid (agSay g w) v = (decide (v = w) || agSaid g v) := by
  unfold agSaid agSay
  rw [if_pos h]
  show (mget (mput g.given w []) v).isSome = _
  rw [mget_mput]
  by_cases e : w = v
  · subst e; rw [if_pos rfl]; simp
  · rw [if_neg e]
    have e' : ¬ v = w := fun h => e h.symm
    simp [e']
theorem agNew_said (n : Nat) (v : Int) : agSaid (agNew n) v = false := rfl
theorem agSayErr_ok {g : Ag} {w : Int} (hw : isWord w = true) (h : agSaid g w = false) : agSayErr g w = 0 := by
  unfold agSayErr
  rw [if_neg (by rw [hw]; simp), if_neg (by show ¬ agSaid g w = true; rw [h]; simp)]
theorem TwP.start {n : Nat} {a b : Int} (ha : isWord a = true) (hb : isWord b = true) (hab : a ≠ b) :
    agSayErr (agNew n) a = 0 ∧ agSayErr (agSay (agNew n) a) b = 0 ∧ TwP n a b 0 (agSay (agSay (agNew n) a) b) := by
  have h1 := agSayErr_ok (g := agNew n) ha (agNew_said n a)
  have h2 : agSayErr (agSay (agNew n) a) b = 0 := agSayErr_ok hb (by rw [agSay_said h1, agNew_said]; simp; exact fun e => hab e.symm)
  refine ⟨h1, h2, ((AgN.new n).say a).say b, fun v => ?_, fun v k hk => ?_, fun k hk => by omega, fun k => ?_⟩
  · rw [agSay_said h2, agSay_said h1, agNew_said]
    unfold isTwo
    rw [Bool.or_false, Bool.or_comm]
  · unfold whoOf at hk
    rw [agSay_who, agSay_who] at hk
    cases hk
  · unfold agKnew agGet
    rw [agSay_mem, agSay_mem]
    unfold agNew
    simp only
    rw [List.getD_eq_getElem?_getD]
    rcases Nat.lt_or_ge (k : Int).toNat (List.replicate n (⟨0, [], [], []⟩ : AgM)).length with h | h
    · rw [List.getElem?_eq_getElem h]; simp
    · rw [List.getElem?_eq_none h]; rfl
theorem TwP.step {n : Nat} {a b : Int} {m : Nat} {g : Ag} (h : TwP n a b m g) (hm : m < n) (ha : isWord a = true) (hb : isWord b = true) (hab : a ≠ b) {x y : Int} (hxy : (x = a ∧ y = b) ∨ (x = b ∧ y = a)) :
    agPropErr g m x = 0 ∧ agPropErr (agProp g m x) m y = 0 ∧ TwP n a b (m + 1) (agProp (agProp g m x) m y) := by
  have hx : isWord x = true := by rcases hxy with ⟨rfl, _⟩ | ⟨rfl, _⟩ <;> assumption
  have hy : isWord y = true := by rcases hxy with ⟨_, rfl⟩ | ⟨_, rfl⟩ <;> assumption
  have hne : x ≠ y := by
    rcases hxy with ⟨rfl, rfl⟩ | ⟨rfl, rfl⟩
    · exact hab
    · exact fun e => hab e.symm
  have sx : isTwo a b x = true := by unfold isTwo; rcases hxy with ⟨rfl, _⟩ | ⟨rfl, _⟩ <;> simp
  have sy : isTwo a b y = true := by unfold isTwo; rcases hxy with ⟨_, rfl⟩ | ⟨_, rfl⟩ <;> simp
  have hno : ∀ v, (m : Int) ∉ whoOf g v := fun v hc => by have := h.who v _ hc; omega
  have e1 : agPropErr g m x = 0 := by rw [agProp_may (by rw [h.ag.len]; exact hm) hx (by rw [h.said]; exact sx), if_neg (hno x)]
  have hw1 := agProp_who e1
  have e2 : agPropErr (agProp g m x) m y = 0 := by
    rw [agProp_may (by rw [agProp_len, h.ag.len]; exact hm) hy (by rw [agProp_said, h.said]; exact sy), if_neg]
    rw [hw1, if_neg hne]; exact hno y
  have hin1 : (m : Int) ∈ whoOf (agProp (agProp g m x) m y) x := agProp_who_sub (agProp_in (by rw [h.ag.len]; exact hm) hx (by rw [h.said]; exact sx))
  have hin2 : (m : Int) ∈ whoOf (agProp (agProp g m x) m y) y := agProp_in (by rw [agProp_len, h.ag.len]; exact hm) hy (by rw [agProp_said, h.said]; exact sy)
  refine ⟨e1, e2, (h.ag.prop _ _).prop _ _, fun v => by rw [agProp_said, agProp_said]; exact h.said v, fun v k hk => ?_, fun k hk => ?_, fun k => by rw [agProp_knew _ _ _ _ (by omega), agProp_knew _ _ _ _ (by omega)]; exact h.knew k⟩
  · rcases agProp_who_in hk with hk | ⟨rfl, _⟩
    · rcases agProp_who_in hk with hk | ⟨rfl, _⟩
      · have := h.who v k hk; omega
      · omega
    · omega
  · by_cases e : k = m
    · subst e
      rcases hxy with ⟨rfl, rfl⟩ | ⟨rfl, rfl⟩
      · exact ⟨hin1, hin2⟩
      · exact ⟨hin2, hin1⟩
    · have := h.has k (by omega)
      exact ⟨agProp_who_sub (agProp_who_sub this.1), agProp_who_sub (agProp_who_sub this.2)⟩
structure TwS (n : Nat) (a b : Int) (m : Nat) (g : Ag) : Prop where
  ag : AgN n g
  said : ∀ v, agSaid g v = isTwo a b v
  full : ∀ v, isTwo a b v = true → (gvOf g v).length = n
  knew : ∀ k : Nat, k < m → a ∈ agKnew g k ∧ b ∈ agKnew g k
  not : ∀ k : Nat, m ≤ k → agKnew g k = []
theorem TwP.done {n : Nat} {a b : Int} {g : Ag} (h : TwP n a b n g) : TwS n a b 0 g := by
  refine ⟨h.ag, h.said, fun v hv => ?_, fun k hk => by omega, fun k _ => h.knew k⟩
  rw [← h.ag.len]
  refine h.ag.inv.full_of fun k hk => ?_
  rw [h.ag.len] at hk
  unfold isTwo at hv
  simp at hv
  rcases hv with rfl | rfl
  · exact (h.has k hk).1
  · exact (h.has k hk).2
theorem TwS.step {n : Nat} {a b : Int} {m : Nat} {g : Ag} (h : TwS n a b m g) (hm : m < n) (ha : isWord a = true) (hb : isWord b = true) (hab : a ≠ b) :
    agSetErr g m b = 0 ∧ agSetErr (agSet g m b) m a = 0 ∧ TwS n a b (m + 1) (agSet (agSet g m b) m a) := by
  have sa : isTwo a b a = true := by unfold isTwo; simp
  have sb : isTwo a b b = true := by unfold isTwo; simp
  have hml : m < g.mem.length := by rw [h.ag.len]; exact hm
  have e1 : agSetErr g m b = 0 := by
    rw [agSet_may hml hb (by rw [h.said]; exact sb) (by rw [h.ag.len]; exact h.full b sb), h.not m (Nat.le_refl _), if_neg (by simp)]
  have hk1 := fun k hk => agSet_knew (k := k) e1 hk
  have hml2 : m < (agSet g m b).mem.length := by rw [agSet_len]; exact hml
  have hf2 : (gvOf (agSet g m b) a).length = (agSet g m b).mem.length := by rw [agSet_gv, agSet_len, h.ag.len]; exact h.full a sa
  have e2 : agSetErr (agSet g m b) m a = 0 := by
    rw [agSet_may hml2 ha (by rw [agSet_said, h.said]; exact sa) hf2, hk1 m (by omega), if_pos rfl, h.not m (Nat.le_refl _), if_neg]
    rw [mem_setPut]
    simp
    exact hab
  have hk2 := fun k hk => agSet_knew (k := k) e2 hk
  refine ⟨e1, e2, (h.ag.set _ _).set _ _, fun v => by rw [agSet_said, agSet_said]; exact h.said v, fun v hv => by rw [agSet_gv, agSet_gv]; exact h.full v hv, fun k hk => ?_, fun k hk => ?_⟩
  · by_cases e : k = m
    · subst e
      refine ⟨agSet_in hml2 ha (by rw [agSet_said, h.said]; exact sa) hf2, agSet_knew_sub (by omega) (agSet_in hml hb (by rw [h.said]; exact sb) (by rw [h.ag.len]; exact h.full b sb))⟩
    · have := h.knew k (by omega)
      exact ⟨agSet_knew_sub (by omega) (agSet_knew_sub (by omega) this.1), agSet_knew_sub (by omega) (agSet_knew_sub (by omega) this.2)⟩
  · rw [hk2 k (by omega), if_neg (by omega), hk1 k (by omega), if_neg (by omega)]
    exact h.not k (by omega)
theorem TwS.heard {n : Nat} {a b : Int} {g : Ag} (h : TwS n a b n g) (hab : a ≠ b) {k : Nat} (hk : k < n) : (agGet g k).heard.length = 2 := by
  have hk' : k < g.mem.length := by rw [h.ag.len]; exact hk
  have hall := h.ag.inv.heard_all hk' (fun w hw => by
    have hS : isTwo a b w = true := by rw [← h.said w]; exact hw
    refine ⟨by rw [h.ag.len]; exact h.full w hS, ?_⟩
    have := h.knew k hk
    unfold agKnew at this
    rw [agGet_at hk'] at this
    unfold isTwo at hS
    simp at hS
    rcases hS with rfl | rfl
    · exact this.1
    · exact this.2)
  rw [agGet_at hk']
  have hp : g.mem[k].heard.Perm [a, b] := (List.perm_ext_iff_of_nodup (h.ag.inv.mem k hk').nodup (by simp [hab])).2 fun w => by
    rw [hall w]
    show agSaid g w = true ↔ _
    rw [h.said w]
    unfold isTwo
    simp
  exact hp.length_eq
theorem TwS.same {n : Nat} {a b : Int} {g : Ag} (h : TwS n a b n g) (hab : a ≠ b) {j k : Nat} (hj : j < n) (hk : k < n) : (agGet g j).heard = (agGet g k).heard := by
  have h1 := h.heard hab hj
  have h2 := h.heard hab hk
  rcases h.ag.alike hj hk with h3 | h3
  · exact h3.eq_of_length (by omega)
  · exact (h3.eq_of_length (by omega)).symm
end Go.Proofs.YtldmdenojpnldaaDoor
