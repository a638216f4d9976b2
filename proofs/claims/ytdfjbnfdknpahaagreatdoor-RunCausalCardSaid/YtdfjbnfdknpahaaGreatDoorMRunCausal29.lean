/- Words as bytes, plainly: packing, unpacking, and that they undo one another. -/
import Derived.Test.YtdfjbnfdknpahaaGreatDoorMRunCausal1
import Derived.Test.YtdfjbnfdknpahaaGreatDoorMRunCausal17
import Derived.Test.YtdfjbnfdknpahaaGreatDoorMRunCausal9
import Derived.Deep.DeepCutAuto
import Derived.Deep.CutBlock
import Derived.Test.YtdfjbnfdknpahaaGreatDoorMRunCausal28
import Derived.Lib.Builder
import Derived.Lib.AppendStr
import Derived.Lib.UnsafeStr
import Derived.Laws.Externs
import Derived.Shelf.RegionOpenPlain
import Derived.Test.YtdfjbnfdknpahaaGreatDoorMRunCausal4
namespace Go.Proofs.YtdfjbnfdknpahaaGreatDoor
set_option linter.unusedVariables false
set_option linter.unusedSimpArgs false
open Go.RowKit
def saidErr (who word : Int) (l : List Int) : Nat := if isMember who = false then 1 else if isWord word = false then 1 else vecErr l
def byt (n : Int) : UInt8 := UInt8.ofNat n.toNat
def dig3 (n : Int) : List UInt8 := [byt (n / 65536), byt (n / 256), byt n]
def wHead (who word : Int) (l : List Int) : List UInt8 := byt who :: byt word :: l.flatMap dig3
def sumB (l : List UInt8) : UInt8 := l.foldl (· + ·) 0
def packB (who word : Int) (l : List Int) : List UInt8 := wHead who word l ++ [sumB (wHead who word l)]
def packS (who word : Int) (l : List Int) : ByteArray := if saidErr who word l = 0 then ⟨(packB who word l).toArray⟩ else ⟨#[]⟩
def bn (b : List UInt8) (k : Nat) : Int := ((b.getD k 0).toNat : Int)
def num3 (b : List UInt8) (k : Nat) : Int := (bn b k * 256 + bn b (k + 1)) * 256 + bn b (k + 2)
def clkN (b : List UInt8) (k : Nat) : List Int := (List.range k).map fun j => num3 b (2 + 3 * j)
def unpackErr (b : List UInt8) : Nat := if b.length ≠ 18 then 2 else if sumB (b.take 17) ≠ b.getD 17 0 then 2 else if saidErr (bn b 0) (bn b 1) (clkN b 5) ≠ 0 then 2 else 0
def unpackWho (b : List UInt8) : Int := if unpackErr b = 0 then bn b 0 else 0
def unpackWord (b : List UInt8) : Int := if unpackErr b = 0 then bn b 1 else 0
def unpackClock (b : List UInt8) : List Int := if unpackErr b = 0 then clkN b 5 else []
theorem clkN_succ (b : List UInt8) (k : Nat) : clkN b (k + 1) = clkN b k ++ [num3 b (2 + 3 * k)] := by unfold clkN; rw [List.range_succ, List.map_append]; rfl
theorem clkN_len (b : List UInt8) (k : Nat) : (clkN b k).length = k := by simp [clkN]
theorem sumB_snoc (l : List UInt8) (x : UInt8) : sumB (l ++ [x]) = sumB l + x := by simp [sumB, List.foldl_append]
theorem sumB_next {l : List UInt8} {k : Nat} (h : k < l.length) : sumB (l.take (k + 1)) = sumB (l.take k) + l[k] := by rw [List.take_succ_eq_append_getElem h, sumB_snoc]
theorem bn_byte (b : List UInt8) (k : Nat) : 0 ≤ bn b k ∧ bn b k ≤ 255 := by
  unfold bn
  have := (b.getD k 0).toNat_lt
  omega
theorem num3_bd (b : List UInt8) (k : Nat) : 0 ≤ num3 b k ∧ num3 b k ≤ 16777215 := by
  have h1 := bn_byte b k; have h2 := bn_byte b (k + 1); have h3 := bn_byte b (k + 2)
  unfold num3; omega
theorem clkN_I64 (b : List UInt8) (k : Nat) : ∀ x ∈ clkN b k, I64 x := by
  intro x hx
  obtain ⟨j, _, rfl⟩ := List.mem_map.1 hx
  have := num3_bd b (2 + 3 * j)
  unfold I64; omega
theorem byt_toNat (n : Int) (h : 0 ≤ n) : ((byt n).toNat : Int) = n % 256 := by
  unfold byt
  rw [UInt8.toNat_ofNat']
  omega
theorem byt_bn (x : UInt8) (n : Int) (h : 0 ≤ n) (h2 : n % 256 = (x.toNat : Int)) : byt n = x := by
  apply UInt8.toNat_inj.1
  have := byt_toNat n h
  omega
theorem list18 (b : List UInt8) (h : b.length = 18) : ∃ b0 b1 b2 b3 b4 b5 b6 b7 b8 b9 b10 b11 b12 b13 b14 b15 b16 b17 : UInt8, b = [b0, b1, b2, b3, b4, b5, b6, b7, b8, b9, b10, b11, b12, b13, b14, b15, b16, b17] := by
  match b, h with
  | [b0, b1, b2, b3, b4, b5, b6, b7, b8, b9, b10, b11, b12, b13, b14, b15, b16, b17], _ => exact ⟨b0, b1, b2, b3, b4, b5, b6, b7, b8, b9, b10, b11, b12, b13, b14, b15, b16, b17, rfl⟩
theorem list5 (l : List Int) (h : l.length = 5) : ∃ a b c d e : Int, l = [a, b, c, d, e] := by
  match l, h with
  | [a, b, c, d, e], _ => exact ⟨a, b, c, d, e, rfl⟩
theorem dig3_num (a b c : UInt8) : dig3 (((a.toNat : Int) * 256 + b.toNat) * 256 + c.toNat) = [a, b, c] := by
  have ha := a.toNat_lt; have hb := b.toNat_lt; have hc := c.toNat_lt
  unfold dig3
  rw [byt_bn a _ (by omega) (by omega), byt_bn b _ (by omega) (by omega), byt_bn c _ (by omega) (by omega)]
theorem saidErr0 {who word : Int} {l : List Int} (h : saidErr who word l = 0) : isMember who = true ∧ isWord word = true ∧ vecErr l = 0 := by
  unfold saidErr at h
  cases h1 : isMember who
  · rw [if_pos h1] at h; cases h
  rw [if_neg (by rw [h1]; simp)] at h
  cases h2 : isWord word
  · rw [if_pos h2] at h; cases h
  rw [if_neg (by rw [h2]; simp)] at h
  exact ⟨rfl, rfl, h⟩
/-- What was read as a word is its bytes. -/
theorem pack_unpack {b : List UInt8} (h : unpackErr b = 0) : saidErr (bn b 0) (bn b 1) (clkN b 5) = 0 ∧ packB (bn b 0) (bn b 1) (clkN b 5) = b := by
  unfold unpackErr at h
  by_cases h1 : b.length = 18
  rotate_left
  · rw [if_pos h1] at h; cases h
  rw [if_neg (by omega)] at h
  by_cases h2 : sumB (b.take 17) = b.getD 17 0
  rotate_left
  · rw [if_pos h2] at h; cases h
  rw [if_neg (by simpa using h2)] at h
  by_cases h3 : saidErr (bn b 0) (bn b 1) (clkN b 5) = 0
  rotate_left
  · rw [if_pos h3] at h; cases h
  refine ⟨h3, ?_⟩
  clear h h3
  obtain ⟨b0, b1, b2, b3, b4, b5, b6, b7, b8, b9, b10, b11, b12, b13, b14, b15, b16, b17, rfl⟩ := list18 b h1
  have e0 : byt (b0.toNat : Int) = b0 := byt_bn b0 _ (by omega) (by have := b0.toNat_lt; omega)
  have e1 : byt (b1.toNat : Int) = b1 := byt_bn b1 _ (by omega) (by have := b1.toNat_lt; omega)
  have hh : wHead (b0.toNat : Int) (b1.toNat : Int) [((b2.toNat : Int) * 256 + b3.toNat) * 256 + b4.toNat, ((b5.toNat : Int) * 256 + b6.toNat) * 256 + b7.toNat, ((b8.toNat : Int) * 256 + b9.toNat) * 256 + b10.toNat, ((b11.toNat : Int) * 256 + b12.toNat) * 256 + b13.toNat, ((b14.toNat : Int) * 256 + b15.toNat) * 256 + b16.toNat] = [b0, b1, b2, b3, b4, b5, b6, b7, b8, b9, b10, b11, b12, b13, b14, b15, b16] := by
    unfold wHead
    simp only [List.flatMap_cons, List.flatMap_nil, dig3_num, e0, e1]
    rfl
  have h2' : sumB [b0, b1, b2, b3, b4, b5, b6, b7, b8, b9, b10, b11, b12, b13, b14, b15, b16] = b17 := h2
  show packB (b0.toNat : Int) (b1.toNat : Int) [((b2.toNat : Int) * 256 + b3.toNat) * 256 + b4.toNat, ((b5.toNat : Int) * 256 + b6.toNat) * 256 + b7.toNat, ((b8.toNat : Int) * 256 + b9.toNat) * 256 + b10.toNat, ((b11.toNat : Int) * 256 + b12.toNat) * 256 + b13.toNat, ((b14.toNat : Int) * 256 + b15.toNat) * 256 + b16.toNat] = _
  unfold packB
  rw [hh, h2']
  rfl
theorem wHead_len {who word : Int} {l : List Int} (h : l.length = 5) : (wHead who word l).length = 17 := by
  obtain ⟨a, b, c, d, e, rfl⟩ := list5 l h
  rfl
theorem packB_len {who word : Int} {l : List Int} (h : l.length = 5) : (packB who word l).length = 18 := by
  unfold packB; rw [List.length_append, wHead_len h]; rfl
theorem num_dig3 (n : Int) (h : 0 ≤ n ∧ n ≤ 1000000) : (((byt (n / 65536)).toNat : Int) * 256 + (byt (n / 256)).toNat) * 256 + (byt n).toNat = n := by
  rw [byt_toNat _ (by omega), byt_toNat _ (by omega), byt_toNat _ (by omega)]
  omega
/-- What was packed is read as it was. -/
theorem unpack_pack {who word : Int} {l : List Int} (h : saidErr who word l = 0) : unpackErr (packB who word l) = 0 ∧ bn (packB who word l) 0 = who ∧ bn (packB who word l) 1 = word ∧ clkN (packB who word l) 5 = l := by
  obtain ⟨hm, hw, hv⟩ := saidErr0 h
  obtain ⟨h5, hb⟩ := vecErr0 hv
  have hlen : (packB who word l).length = 18 := packB_len h5
  have hhl : (wHead who word l).length = 17 := wHead_len h5
  have ht : (packB who word l).take 17 = wHead who word l := by unfold packB; rw [List.take_append_of_le_length (by omega), List.take_of_length_le (by omega)]
  have hs : (packB who word l).getD 17 0 = sumB (wHead who word l) := by unfold packB; rw [List.getD_eq_getElem?_getD, List.getElem?_append_right (by omega), hhl]; rfl
  have hm' : 0 ≤ who ∧ who < 5 := by simpa [isMember] using hm
  have hw' : 1 ≤ word ∧ word ≤ 30 := by simpa [isWord] using hw
  have e0 : ((byt who).toNat : Int) = who := by rw [byt_toNat _ (by omega)]; omega
  have e1 : ((byt word).toNat : Int) = word := by rw [byt_toNat _ (by omega)]; omega
  obtain ⟨a, b, c, d, e, rfl⟩ := list5 l h5
  have g0 : bn (packB who word [a, b, c, d, e]) 0 = who := e0
  have g1 : bn (packB who word [a, b, c, d, e]) 1 = word := e1
  have g2 : clkN (packB who word [a, b, c, d, e]) 5 = [a, b, c, d, e] := by
    show [(((byt (a / 65536)).toNat : Int) * 256 + (byt (a / 256)).toNat) * 256 + (byt a).toNat, (((byt (b / 65536)).toNat : Int) * 256 + (byt (b / 256)).toNat) * 256 + (byt b).toNat, (((byt (c / 65536)).toNat : Int) * 256 + (byt (c / 256)).toNat) * 256 + (byt c).toNat, (((byt (d / 65536)).toNat : Int) * 256 + (byt (d / 256)).toNat) * 256 + (byt d).toNat, (((byt (e / 65536)).toNat : Int) * 256 + (byt (e / 256)).toNat) * 256 + (byt e).toNat] = _
    rw [num_dig3 a (hb a (by simp)), num_dig3 b (hb b (by simp)), num_dig3 c (hb c (by simp)), num_dig3 d (hb d (by simp)), num_dig3 e (hb e (by simp))]
  refine ⟨?_, g0, g1, g2⟩
  unfold unpackErr
  rw [if_neg (by omega), ht, hs, if_neg (by simp), g0, g1, g2, h]
  first | done | rfl | simp
def sumN (l : List UInt8) : Nat := (l.map UInt8.toNat).sum
theorem sumB_toNat : ∀ (l : List UInt8) (a : UInt8), (l.foldl (· + ·) a).toNat = (a.toNat + sumN l) % 256
  | [], a => by have := a.toNat_lt; simp [sumN]; try omega
  | x :: r, a => by
    rw [List.foldl_cons, sumB_toNat r]
    simp only [UInt8.toNat_add, sumN, List.map_cons, List.sum_cons]
    omega
theorem sumN_set : ∀ (l : List UInt8) (k : Nat) (x : UInt8) (h : k < l.length), sumN (l.set k x) + l[k].toNat = sumN l + x.toNat
  | y :: r, 0, x, _ => by simp [sumN]; omega
  | y :: r, k + 1, x, h => by
    have ih := sumN_set r k x (by simpa using h)
    simp only [sumN, List.set_cons_succ, List.map_cons, List.sum_cons, List.getElem_cons_succ] at ih ⊢
    omega
/-- With one byte another one it is none. -/
theorem unpack_set {who word : Int} {l : List Int} (h : saidErr who word l = 0) (k : Nat) (x : UInt8) (hk : k < 18) (hx : (packB who word l).getD k 0 ≠ x) : unpackErr ((packB who word l).set k x) = 2 := by
  obtain ⟨hm, hw, hv⟩ := saidErr0 h
  obtain ⟨h5, _⟩ := vecErr0 hv
  have hhl : (wHead who word l).length = 17 := wHead_len h5
  unfold packB at hx ⊢
  obtain ⟨A, hA⟩ : ∃ A, A = wHead who word l := ⟨_, rfl⟩
  rw [← hA] at hhl hx ⊢
  unfold unpackErr
  rw [if_neg (by rw [List.length_set, List.length_append, hhl]; simp)]
  by_cases h17 : k = 17
  · subst h17
    have ht : ((A ++ [sumB A]).set 17 x).take 17 = A := by
      rw [List.set_append_right _ _ (by omega), List.take_append_of_le_length (by omega), List.take_of_length_le (by omega)]
    rw [if_pos]
    rw [ht, List.getD_eq_getElem?_getD, List.getElem?_set_self (by rw [List.length_append, hhl]; simp)]
    rw [List.getD_eq_getElem?_getD, List.getElem?_append_right (by omega), hhl] at hx
    exact hx
  · have ht : ((A ++ [sumB A]).set k x).take 17 = A.set k x := by
      rw [List.set_append_left _ _ (by omega), List.take_append_of_le_length (by simp; omega), List.take_of_length_le (by simp; omega)]
    have hk17 : k < A.length := by omega
    have hl17 : ((A ++ [sumB A]).set k x).getD 17 0 = sumB A := by
      rw [List.getD_eq_getElem?_getD, List.getElem?_set_ne (by omega), List.getElem?_append_right (by omega), hhl]; rfl
    rw [List.getD_eq_getElem?_getD, List.getElem?_append_left hk17, List.getElem?_eq_getElem hk17] at hx
    rw [if_pos]
    rw [ht, hl17]
    intro he
    apply hx
    apply UInt8.toNat_inj.1
    have h1 := sumB_toNat (A.set k x) 0
    have h2 := sumB_toNat A 0
    have h3 := sumN_set A k x hk17
    have h4 := A[k].toNat_lt
    have h6 := x.toNat_lt
    unfold sumB at he
    rw [he, h2] at h1
    simp only [UInt8.toNat_zero] at h1
    show A[k].toNat = x.toNat
    omega
theorem bytes_ext {a b : ByteArray} (h : a.data.toList = b.data.toList) : a = b := by
  cases a; cases b
  simp only at h
  congr 1
  exact Array.toList_inj.1 h
theorem unpack_short {b : List UInt8} (h : b.length ≠ 18) : unpackErr b = 2 := by unfold unpackErr; rw [if_pos h]
end Go.Proofs.YtdfjbnfdknpahaaGreatDoor
/- Contracts of package wire: sum, check, Pack. -/
namespace Go.Proofs.YtdfjbnfdknpahaaGreatDoor
set_option linter.unusedVariables false
set_option linter.unusedSimpArgs false
open Go.RowKit
def u8V (b : UInt8) : Value := .int .u8 (b.toNat : Int)
def BySl (v : Value) (l : List UInt8) : HProp := Sl 5 1 v l.length (l.map u8V)
def ByRd (w : World) (v : Value) (l : List UInt8) : Prop := Rd w v l.length (l.map u8V)
theorem info_byte : (Tryz.prog.info? 5).map (fun i => (i.zero, i.size, i.bytes)) = some (some (.int .u8 0), 1, 1) := by kernel_rfl
theorem by_one (l : List UInt8) : ∀ u ∈ l.map u8V, u.oneCell' = true := by
  intro u hu
  obtain ⟨x, _, rfl⟩ := List.mem_map.1 hu
  rfl
theorem ByRd.at {w : World} {ad : Option Addr} {n cap : Nat} {l : List UInt8} (h : ByRd w (.slice ad n cap) l) (k : Nat) (hk : k < l.length) : ∃ a : Addr, ad = some a ∧ w.cell? (a.add k) = some (.int .u8 ((l[k]).toNat : Int)) := by
  obtain ⟨ad', cap', e, _, _, _, hc⟩ := h
  cases e
  exact hc k _ (by simp [hk, u8V])
theorem ByRd.shape {w : World} {v : Value} {l : List UInt8} (h : ByRd w v l) : ∃ ad cap, v = .slice ad l.length cap ∧ l.length ≤ cap ∧ cap ≤ 9223372036854775807 := by
  obtain ⟨ad', cap', e, h1, h2, _, hc⟩ := h
  exact ⟨_, _, e, h1, by simpa [maxLen] using h2⟩
theorem Own.by_shape {w0 w : World} {v : Value} {l : List UInt8} {R : HProp} (h : Own w0 (BySl v l * R) w) : ∃ ad cap, v = .slice ad l.length cap ∧ l.length ≤ cap ∧ cap ≤ 9223372036854775807 := ByRd.shape (Own.rd h)
end Go.Proofs.YtdfjbnfdknpahaaGreatDoor
/- strings.Builder, made by the call itself: WriteString, String. (The kit's laws on the builder's memory: Derived.Lib.Builder.) -/
namespace Go.Proofs.YtdfjbnfdknpahaaGreatDoor
set_option linter.unusedVariables false
set_option linter.unusedSimpArgs false
open Go.RowKit
/-- The builder in block b, of the address word p, holds the bytes l. -/
def BAt (b : Nat) (p : Value) (l : List UInt8) (w : World) : Prop :=
  ∃ v, w.heap[b]? = some (.cells #[p, v] 42 (0, 0)) ∧ w.ownsRow b 5 1 v l.length (Lib.byteCells l) ∧ v.ownBlock ≠ some b ∧ (v = .slice none 0 0 ↔ l = [])
def BIs (b : Nat) (l : List UInt8) (w : World) : Prop := BAt b (.pointer none) l w ∨ BAt b (.pointer (some ⟨b, 0, none⟩)) l w
theorem BAt.lt {b : Nat} {p : Value} {l : List UInt8} {w : World} (h : BAt b p l w) : b < w.heap.size := by
  obtain ⟨v, hb, _⟩ := h
  rcases Nat.lt_or_ge b w.heap.size with h' | h'
  · exact h'
  · simp [Array.getElem?_eq_none h'] at hb
theorem BIs.lt {b : Nat} {l : List UInt8} {w : World} (h : BIs b l w) : b < w.heap.size := by rcases h with h | h <;> exact h.lt
theorem BIs.drew {b : Nat} {l : List UInt8} {w : World} (h : BIs b l w) : BIs b l w.drew := h
theorem BAt.used {b : Nat} {p : Value} {l : List UInt8} {w : World} (h : BAt b p l w) (q : Value) : BAt b q l (w.setCell ⟨b, 0, none⟩ q) := by
  obtain ⟨v, hb, hown, hne, hnil⟩ := h
  refine ⟨v, ?_, ?_, hne, hnil⟩
  · rw [heap_setCell_cells hb]; rfl
  · exact hown.kept (row := some b) ⟨rfl, rfl, rfl, by simp [World.setCell], fun k _ hk => Below.heap_setCell _ _ _ _ (fun e => hk (by simp [e]))⟩ (Or.inr hne)
theorem bis_new (w : World) : BIs w.heap.size [] (w.alloc (.cells #[.pointer none, .slice none 0 0] 42)) :=
  .inl ⟨_, (by show (w.heap.push _)[w.heap.size]? = _; simp), World.ownsRow_nil _ _ _ _, by simp [Value.ownBlock], by simp⟩
theorem bld_size : (Tryz.prog.info? 42).map (·.size) = some 2 := by kernel_rfl
theorem bld_lies : liesAt Tryz.prog Tryz.prog.depth 42 (2 / Tryz.prog.cellsOf 42) 0 42 1 = true := by kernel_rfl
theorem bld_byte : (Tryz.prog.info? 5).map (fun i => (i.zero, i.size, i.bytes)) = some (some (.int .u8 0), 1, 1) := by kernel_rfl
theorem bld_one : Tryz.prog.cellsOf 5 = 1 := by kernel_rfl
set_option maxRecDepth 100000 in
set_option maxHeartbeats 4000000 in
theorem bCopy_used {w : World} (b : Nat) (h0 : w.cell? ⟨b, 0, none⟩ = some (.pointer (some ⟨b, 0, none⟩))) :
    Calls Tryz.prog 36 #[.pointer (some ⟨b, 0, none⟩)] w fun e w' => e = .returned (.tuple #[]) ∧ w' = w := by
  obtain ⟨j, hj, _⟩ := Option.map_eq_some_iff.1 bld_size
  go_enter Tryz.func36, Tryz.ntmps36
  go_wp2
  rw [Lib.run_neq_ptr_same w _ Tryz.underlying39 hj]
  go_wp2
  go_end0
  exact ⟨rfl, rfl⟩
set_option maxRecDepth 100000 in
set_option maxHeartbeats 4000000 in
theorem bCopy_fresh {w : World} (b : Nat) (h0 : w.cell? ⟨b, 0, none⟩ = some (.pointer none)) (hsh : w.shape? b = some (42, 2)) (hfz : w.frozen? ⟨b, 0, none⟩ = false) :
    Calls Tryz.prog 36 #[.pointer (some ⟨b, 0, none⟩)] w fun e w' => e = .returned (.tuple #[]) ∧ w' = w.setCell ⟨b, 0, none⟩ (.pointer (some ⟨b, 0, none⟩)) := by
  obtain ⟨j, hj, hjs⟩ := Option.map_eq_some_iff.1 bld_size
  go_enter Tryz.func36, Tryz.ntmps36
  go_wp2
  rw [Lib.run_to_unsafe w ⟨b, 0, none⟩ Tryz.underlying39 Tryz.underlying125 hj (by rw [hjs]; decide) hsh (Nat.zero_lt_succ 1)]
  simp only [Result.andThen]
  rw [Oper.upon_value]
  go_wp2
  rw [run_callFunc_extern Tryz.func48 (by kernel_rfl) (by kernel_rfl) (by kernel_rfl) (e := Extern.AbiNoEscape.same) (by kernel_rfl)]
  rw [Lib.run_noEscape]
  simp only [Result.andThen]
  rw [Oper.upon_value]
  go_wp2
  rw [Lib.run_from_unsafe w ⟨b, 0, none⟩ Tryz.underlying125 Tryz.underlying39 hj hsh bld_lies]
  simp only [Result.andThen]
  rw [Oper.upon_value]
  go_wp2
  go_end0
  exact ⟨rfl, rfl⟩
set_option maxRecDepth 100000 in
set_option maxHeartbeats 4000000 in
theorem bCopy_any {w : World} (b : Nat) (l : List UInt8) (h : BIs b l w) :
    Calls Tryz.prog 36 #[.pointer (some ⟨b, 0, none⟩)] w fun e w' => e = .returned (.tuple #[]) ∧ BAt b (.pointer (some ⟨b, 0, none⟩)) l w' ∧ Below b w w' := by
  rcases h with h | h
  · obtain ⟨v, hb, hr⟩ := h
    refine (bCopy_fresh b (by rw [Lib.cell_of_heap hb]; rfl) (by simp [World.shape?, hb]) (Lib.frozen_of_heap hb 0)).mono ?_
    rintro e w' ⟨rfl, rfl⟩
    exact ⟨rfl, BAt.used ⟨v, hb, hr⟩ _, (Below.refl b w).setCell (p := ⟨b, 0, none⟩) (Nat.le_refl _) _⟩
  · obtain ⟨v, hb, hr⟩ := h
    refine (bCopy_used b (by rw [Lib.cell_of_heap hb]; rfl)).mono ?_
    rintro e w' ⟨rfl, rfl⟩
    exact ⟨rfl, ⟨v, hb, hr⟩, Below.refl _ _⟩
set_option maxRecDepth 100000 in
set_option maxHeartbeats 4000000 in
theorem bWrite_any {w : World} (b : Nat) (l : List UInt8) (s : ByteArray) (h : BIs b l w) (hlen : l.length + s.size ≤ 140737488355328) :
    Calls Tryz.prog 13 #[.pointer (some ⟨b, 0, none⟩), .string s] w fun e w' => e = .returned (.tuple #[.int .i64 s.size, .nilIface]) ∧ BIs b (l ++ s.data.toList) w' ∧ Below b w w' := by
  obtain ⟨i0, hi, hz0, hz1, hz2⟩ := info_parts bld_byte
  have hbw := h.lt
  go_enter Tryz.func13, Tryz.ntmps13
  go_wp2_with fail
  refine (bCopy_any b l h).mono ?_
  rintro e w1 ⟨rfl, h1, hb1⟩
  have hlt := h1.lt
  obtain ⟨v, hbk, hown, hne, hnil⟩ := h1
  have c0 : w1.cell? ⟨b, 0, none⟩ = some (.pointer (some ⟨b, 0, none⟩)) := by rw [Lib.cell_of_heap hbk]; rfl
  have c1 : w1.cell? ⟨b, 1, none⟩ = some v := by rw [Lib.cell_of_heap hbk]; rfl
  have hsz : (s.data.toList).length = s.size := by rw [Array.length_toList]; rfl
  go_wp2_with (at_builtin; refine Lib.wpList_append_own_string _ rfl _ _ 40 9 rfl b 5 i0 Tryz.underlying40 Tryz.underlying9 hi hz0 hz1 hz2 _ _ _ rfl hown s rfl ?c3 ?c4 ?c5 ?_)
  case c3 => unfold maxLen; omega
  case c4 => omega
  case c5 => have := hb1.size; omega
  intro v' w2 hown' hgrow hnil'
  have hb2 : w2.heap[b]? = some (.cells #[.pointer (some ⟨b, 0, none⟩), v] 42 (0, 0)) := by
    rw [hgrow.block b hlt (fun e => hne e.symm)]
    exact hbk
  have d0 : w2.cell? ⟨b, 0, none⟩ = some (.pointer (some ⟨b, 0, none⟩)) := by rw [Lib.cell_of_heap hb2]; rfl
  have d1 : w2.cell? ⟨b, 1, none⟩ = some v := by rw [Lib.cell_of_heap hb2]; rfl
  have f1 : w2.frozen? ⟨b, 1, none⟩ = false := Lib.frozen_of_heap hb2 1
  obtain ⟨ao, n', cap, rfl⟩ : ∃ ao n' cap, v' = .slice ao n' cap := by
    rcases hown'.2 with ⟨hv, _⟩ | ⟨g, cap, cur, hv, _⟩
    · exact ⟨_, _, _, hv⟩
    · exact ⟨_, _, _, hv⟩
  go_wp2
  go_ret2
  have hl2 : (l ++ s.data.toList).length = l.length + s.size := by rw [List.length_append, hsz]
  refine ⟨rfl, .inr ?_, ?_⟩
  · obtain ⟨_, v2, k1, k2, k3⟩ := Lib.BuilderAt.put (T := 42) (e := 5) (B := b) (Nat.le_refl b) hb2 (bs' := Lib.byteCells (l ++ s.data.toList)) (v' := .slice ao n' cap) (by rw [Lib.byteCells_length, hl2, Lib.byteCells_append]; exact hown') (by decide)
    have hv2 : v2 = .slice ao n' cap := by
      have := k1.symm.trans (heap_setCell_cells (i := 1) (v := .slice ao n' cap) hb2)
      simp at this
      exact this
    subst hv2
    refine ⟨_, k1, by rw [Lib.byteCells_length] at k2; exact k2, k3, hnil'.trans ?_⟩
    rw [List.append_eq_nil_iff]
    refine and_congr Iff.rfl ⟨fun h => by subst h; rfl, fun h => ?_⟩
    cases s with
    | mk d => simp at h; subst h; rfl
  · exact (hb1.grown hgrow (by have := hb1.size; omega) (fun k hk => (hown.lt k hk).1)).setCell (p := ⟨b, 1, none⟩) (Nat.le_refl _) _
set_option maxRecDepth 100000 in
set_option maxHeartbeats 4000000 in
theorem bString_row {w : World} (b : Nat) (l : List UInt8) (h : BIs b l w) (h0 : l ≠ []) :
    Calls Tryz.prog 16 #[.pointer (some ⟨b, 0, none⟩)] w fun e w' => e = .returned (.string ⟨l.toArray⟩) ∧ Below b w w' := by
  obtain ⟨p, v, hbk, hown, hne, _⟩ : ∃ p, BAt b p l w := by rcases h with h | h <;> exact ⟨_, h⟩
  have hl0 : l.length ≠ 0 := by simpa using h0
  obtain ⟨g, cap, cur, rfl, hbg, hg, hnc, hcm, hcs, htake⟩ : ∃ g cap cur, v = .slice (some ⟨g, 0, none⟩) l.length cap ∧ b ≤ g ∧ w.heap[g]? = some (.cells cur 5 (0, 0)) ∧ l.length ≤ cap ∧ cap ≤ maxLen ∧ cur.size = cap * 1 ∧ cur.toList.take (l.length * 1) = Lib.byteCells l := by
    rcases hown.2 with ⟨_, hz⟩ | ⟨g, cap, cur, hv, r⟩
    · exact absurd hz hl0
    · exact ⟨g, cap, cur, hv, r⟩
  have c1 : w.drew.cell? ⟨b, 1, none⟩ = some (.slice (some ⟨g, 0, none⟩) l.length cap) := by
    have : w.drew.heap[b]? = some (.cells #[p, .slice (some ⟨g, 0, none⟩) l.length cap] 42 (0, 0)) := hbk
    rw [Lib.cell_of_heap this]; rfl
  have hSD : (Builtin.unsafeSliceData_ #[40] 108 #[.slice (some ⟨g, 0, none⟩) l.length cap]).run Tryz.prog w.drew = .ok (.pointer (some ⟨g, 0, none⟩)) w.drew :=
    Lib.run_unsafeSliceData_row _ _ _ _ _ _ (by omega)
  have hUS : (Builtin.unsafeString_ #[108, 3] 9 #[.pointer (some ⟨g, 0, none⟩), .int .i64 l.length]).run Tryz.prog w.drew = .ok (.string ⟨l.toArray⟩) (w.drew.freeze ⟨g, 0, none⟩ l.length) := by
    refine Lib.run_unsafeString_row w.drew 108 3 9 5 Tryz.underlying108 bld_one g cur.size (by have hg' : w.drew.heap[g]? = some (.cells cur 5 (0, 0)) := hg; simp [World.shape?, hg']) l h0 (by omega) (by unfold maxLen at hcm; omega) ?_
    intro j x hx
    have := hown.cells (g := g) rfl j (.int .u8 x.toNat) (by simp [Lib.byteCells, hx])
    exact this
  have mixed : Tryz.prog.follows Departure.mixedOrders = true := by kernel_rfl
  go_enter Tryz.func16, Tryz.ntmps16
  go_wp2
  go_region_o
  all_goals (go_wp2; go_ret; exact ⟨rfl, Lib.below_freeze (Below.drew (Below.refl b w)) (p := ⟨g, 0, none⟩) hbg _⟩)
set_option maxRecDepth 100000 in
set_option maxHeartbeats 4000000 in
theorem bString_nil {w : World} (b : Nat) (h : BIs b [] w) :
    Calls Tryz.prog 16 #[.pointer (some ⟨b, 0, none⟩)] w fun e w' => e = .returned (.string ⟨#[]⟩) ∧ Below b w w' := by
  obtain ⟨p, v, hbk, hown, hne, hnil⟩ : ∃ p, BAt b p [] w := by rcases h with h | h <;> exact ⟨_, h⟩
  obtain rfl := hnil.2 rfl
  have hUS : ∀ (W : World) (q : Option Addr), (Builtin.unsafeString_ #[108, 3] 9 #[.pointer q, .int .i64 0]).run Tryz.prog W = .ok (.string .empty) W := fun W q => Lib.run_unsafeString_none W _ _ _ q
  have c1 : w.drew.cell? ⟨b, 1, none⟩ = some (.slice none 0 0) := by
    have : w.drew.heap[b]? = some (.cells #[p, .slice none 0 0] 42 (0, 0)) := hbk
    rw [Lib.cell_of_heap this]; rfl
  have hSD : (Builtin.unsafeSliceData_ #[40] 108 #[.slice none 0 0]).run Tryz.prog w.drew = .ok (.pointer none) w.drew := rfl
  have mixed : Tryz.prog.follows Departure.mixedOrders = true := by kernel_rfl
  go_enter Tryz.func16, Tryz.ntmps16
  go_wp2
  go_region_o
  all_goals (go_wp2; go_ret; exact ⟨rfl, Below.drew (Below.refl b w)⟩)
set_option maxRecDepth 100000 in
set_option maxHeartbeats 4000000 in
theorem bString_any {w : World} (b : Nat) (l : List UInt8) (h : BIs b l w) :
    Calls Tryz.prog 16 #[.pointer (some ⟨b, 0, none⟩)] w fun e w' => e = .returned (.string ⟨l.toArray⟩) ∧ Below b w w' := by
  cases l with
  | nil => exact bString_nil b h
  | cons x r => exact bString_row b (x :: r) h (by simp)
end Go.Proofs.YtdfjbnfdknpahaaGreatDoor
/- strings.Builder, owned: WriteString, String. -/
namespace Go.Proofs.YtdfjbnfdknpahaaGreatDoor
set_option linter.unusedVariables false
set_option linter.unusedSimpArgs false
open Go.RowKit
/-- The slice value v owns its row of bytes xs. -/
def RowB (v : Value) (xs : List Value) : HProp := fun h =>
  (v = .slice none 0 0 ∧ xs = [] ∧ h = hnil) ∨
  ∃ g cap cur, v = .slice (some ⟨g, 0, none⟩) xs.length cap ∧ (xs.length ≤ cap ∧ 0 < cap) ∧ cap ≤ maxLen ∧ cur.size = cap * 1 ∧ cur.toList.take (xs.length * 1) = xs ∧ h = hone g (.cells cur 5 (0, 0))
theorem Own.rowB {w0 w : World} {v : Value} {xs : List Value} {R : HProp} (h : Own w0 (RowB v xs * R) w) :
    (v = .slice none 0 0 ∧ xs = [] ∧ Own w0 R w) ∨
    ∃ g cap cur, v = .slice (some ⟨g, 0, none⟩) xs.length cap ∧ (xs.length ≤ cap ∧ 0 < cap) ∧ cap ≤ maxLen ∧ cur.size = cap * 1 ∧ cur.toList.take (xs.length * 1) = xs ∧ Own w0 (blk g (.cells cur 5 (0, 0)) * R) w := by
  obtain ⟨hb, x, a, ⟨p, q, d, rfl, hp, hq⟩⟩ := h
  rcases hp with ⟨h1, h3, rfl⟩ | ⟨g, cap, cur, h1, h2, h3, h4, h5, rfl⟩
  · exact .inl ⟨h1, h3, hb, _, a, hq⟩
  · exact .inr ⟨g, cap, cur, h1, h2, h3, h4, h5, hb, _, a, _, _, d, rfl, rfl, hq⟩
theorem RowB_nil : RowB (.slice none 0 0) [] = emp := by
  funext h; apply propext; constructor
  · rintro (⟨_, _, h⟩ | ⟨g, cap, cur, h, _⟩)
    · exact h
    · cases h
  · intro h; exact .inl ⟨rfl, rfl, h⟩
theorem Own.rowB_mk {w0 w : World} {g cap : Nat} {cur : Array Value} {xs : List Value} {R : HProp} (h1 : xs.length ≤ cap ∧ 0 < cap) (h2 : cap ≤ maxLen) (h3 : cur.size = cap * 1) (h4 : cur.toList.take (xs.length * 1) = xs)
    (h : Own w0 (blk g (.cells cur 5 (0, 0)) * R) w) : Own w0 (RowB (.slice (some ⟨g, 0, none⟩) xs.length cap) xs * R) w :=
  h.cons fun _ hh => .inr ⟨g, cap, cur, rfl, h1, h2, h3, h4, hh⟩
theorem Own.newAt {w0 w w' : World} {g : Nat} {o : Obj} {R : HProp} (h : Own w0 R w) (hg : w.grownBy w' none) (hle : w.heap.size ≤ g) (hb : w'.heap[g]? = some o) : Own w0 (blk g o * R) w' := by
  obtain ⟨hbel, x, a, hx⟩ := h
  have hlt : ∀ k u, x k = some u → k < w.heap.size := fun k u hk => by
    rcases Nat.lt_or_ge k w.heap.size with h | h
    · exact h
    · have := (a k u hk).2; rw [Array.getElem?_eq_none h] at this; cases this
  refine ⟨hbel.trans ⟨hg.os, hg.tape, hg.output, hg.size, fun k hk => hg.block k (Nat.lt_of_lt_of_le hk hbel.size) (by simp)⟩, hjoin (hone g o) x, fun k u hk => ?_, hone g o, x, fun k => ?_, rfl, rfl, hx⟩
  · unfold hjoin hone at hk
    by_cases hkb : k = g
    · subst hkb; simp at hk; subst hk; exact ⟨Nat.le_trans hbel.size hle, hb⟩
    · simp [hkb] at hk
      exact ⟨(a k u hk).1, by rw [hg.block k (hlt k u hk) (by simp)]; exact (a k u hk).2⟩
  · unfold hone
    by_cases hkb : k = g
    · subst hkb
      right
      cases hxk : x k with
      | none => rfl
      | some u => exact absurd (hlt _ _ hxk) (by omega)
    · simp [hkb]
theorem Own.still {w0 w w' : World} {R : HProp} (h : Own w0 R w) (hg : w.grownBy w' none) : Own w0 R w' := by
  obtain ⟨hbel, x, a, hx⟩ := h
  refine ⟨hbel.trans ⟨hg.os, hg.tape, hg.output, hg.size, fun k hk => hg.block k (Nat.lt_of_lt_of_le hk hbel.size) (by simp)⟩, x, fun k u hk => ?_, hx⟩
  have h1 := a k u hk
  refine ⟨h1.1, ?_⟩
  rw [hg.block k ?_ (by simp)]
  · exact h1.2
  · rcases Nat.lt_or_ge k w.heap.size with h | h
    · exact h
    · have := h1.2; rw [Array.getElem?_eq_none h] at this; cases this
theorem run_append_str {w0 w : World} {R : HProp} {ty : TypeId} (v : Value) (xs : List Value) (h : Own w0 (RowB v xs * R) w) (s : ByteArray) (hs : xs.length + s.size ≤ 140737488355328) :
    ∃ v' w', (Builtin.append_ #[40, 9] ty #[v, .string s]).run Tryz.prog w = .ok v' w' ∧ Own w0 (RowB v' (xs ++ Lib.strCells s) * R) w' := by
  obtain ⟨i0, hi, hz0, hz1, hz2⟩ := info_parts bld_byte
  have hsl : (xs ++ Lib.strCells s).length = xs.length + s.size := by rw [List.length_append, Lib.strCells_length]
  rcases h.rowB with ⟨rfl, rfl, ho⟩ | ⟨g, cap, cur, rfl, ⟨h1, hcpos⟩, h2, h3, h4, ho⟩
  · obtain ⟨v', w', hr, hown, hg, hnn⟩ := Lib.run_append_own_string (P := Tryz.prog) w w.heap.size 40 9 ty 5 i0 Tryz.underlying40 Tryz.underlying9 hi hz0 hz1 hz2 (.slice none 0 0) 0 [] (World.ownsRow_nil w _ _ _) s (by unfold maxLen; simp at hs; omega) (by simpa using hs) (Nat.le_refl _)
    refine ⟨v', w', hr, ?_⟩
    rcases hown.2 with ⟨rfl, hz⟩ | ⟨g, cap, cur, rfl, hbg, hg2, hnc, hcm, hcs, htk⟩
    · have hnil : Lib.strCells s = [] := List.eq_nil_of_length_eq_zero (by rw [Lib.strCells_length]; omega)
      rw [List.nil_append, hnil, RowB_nil, emp_star]
      exact ho.still hg
    · have hh := ho.newAt hg hbg hg2
      have hsp : 0 < s.size := by
        rcases Nat.eq_zero_or_pos s.size with h9 | h9
        · have := hnn.2 ⟨rfl, h9⟩; cases this
        · exact h9
      simp only [List.length_nil, Nat.zero_add, List.nil_append] at hsl hnc htk ⊢
      rw [← hsl] at hnc htk ⊢
      exact Own.rowB_mk ⟨hnc, by omega⟩ hcm hcs htk hh
  · have hb := ho.blk_at.1
    have hown0 : w.ownsRow 0 5 1 (.slice (some ⟨g, 0, none⟩) xs.length cap) xs.length xs := ⟨by simp, .inr ⟨g, cap, cur, rfl, Nat.zero_le _, hb, h1, h2, h3, h4⟩⟩
    obtain ⟨v', w', hr, hown, hg, _⟩ := Lib.run_append_own_string (P := Tryz.prog) w 0 40 9 ty 5 i0 Tryz.underlying40 Tryz.underlying9 hi hz0 hz1 hz2 _ xs.length xs hown0 s (by unfold maxLen; omega) hs (Nat.zero_le _)
    refine ⟨v', w', hr, ?_⟩
    by_cases hroom : xs.length + s.size ≤ cap
    · have hr2 := Lib.run_append_room_string (P := Tryz.prog) w 40 9 ty 5 i0 Tryz.underlying40 Tryz.underlying9 hi hz1 g xs.length cap cur hb s hroom (by omega)
      rw [hr] at hr2
      injection hr2 with e1 e2
      subst e1
      rcases hown.2 with ⟨h9, _⟩ | ⟨g', cap', cur', h9, hbg, hg2, hnc, hcm, hcs, htk⟩
      · cases h9
      · cases h9
        have hh := ho.set hg.os hg.tape hg.output hg.size (fun k hk hne => hg.block k hk (fun e => hne (by simp [Value.ownBlock] at e; omega))) hg2
        rw [← hsl] at hnc htk ⊢
        exact Own.rowB_mk ⟨hnc, by omega⟩ hcm hcs htk hh
    · have holds : ∀ j u, xs[j]? = some u → w.cell? ((⟨g, 0, none⟩ : Addr).add j) = some u := hown0.cells (g := g) rfl
      have hr2 := Lib.run_append_grow_string (P := Tryz.prog) w 40 9 ty 5 i0 (.int .u8 0) Tryz.underlying40 Tryz.underlying9 hi hz0 ⟨g, 0, none⟩ xs.length cap xs (by rw [hz1]; simp) holds s (by omega) (by omega) (by rw [hz2]; exact growslice_fits (by omega) (by omega))
      rw [hr] at hr2
      injection hr2 with e1 e2
      rcases hown.2 with ⟨h9, _⟩ | ⟨g', cap', cur', h9, hbg, hg2, hnc, hcm, hcs, htk⟩
      · rw [h9] at e1; cases e1
      · rw [e1] at h9
        cases h9
        rw [e1]
        have hg3 : w.grownBy w' none := by rw [e2]; exact ⟨rfl, rfl, rfl, by simp, fun k hk _ => Below.heap_alloc w.drew _ _ hk⟩
        have hh := ho.drop.newAt hg3 (Nat.le_refl _) hg2
        rw [← hsl] at hnc hcm hcs htk ⊢
        exact Own.rowB_mk ⟨hnc, by omega⟩ hcm hcs htk hh
theorem wpList_appB {ops : Array Oper} {rest : List Oper} {o : Oper} {a : Act} {Q : Exit → Act → World → Prop} {w0 w : World} {R : HProp} (hgd : o.guard = none) (sl x : Operand)
    (ho : o.op = .call { callee := .builtin .append, args := #[sl, x], argTypes := #[40, 9] }) {v : Value} (hs : a.eval sl = v) {s : ByteArray} (hx : a.eval x = .string s)
    {xs : List Value} (hown : Own w0 (RowB v xs * R) w) (hlen : xs.length + s.size ≤ 140737488355328)
    (h : ∀ v' w', Own w0 (RowB v' (xs ++ Lib.strCells s) * R) w' → wpList Tryz.prog ops Q rest (a.put o.dst v') w') : wpList Tryz.prog ops Q (o :: rest) a w := by
  refine wpList_plain hgd fun K hK => ?_
  obtain ⟨v', w', hr, h2⟩ := run_append_str (ty := o.type) v xs hown s hlen
  unfold Oper.wp execOp
  simp only [ho, resolve, invoke, builtin, Sem.run_bind, Sem.run_pure, Result.andThen_ok, List.map_toArray, List.map_cons, List.map_nil, hs, hx, hr]
  exact hK _ _ (h v' w' h2)
theorem Own.rowB_shape {w0 w : World} {v : Value} {xs : List Value} {R : HProp} (h : Own w0 (RowB v xs * R) w) : ∃ ao cap, v = .slice ao xs.length cap ∧ xs.length ≤ cap := by
  rcases h.rowB with ⟨rfl, rfl, _⟩ | ⟨g, cap, cur, rfl, h1, _⟩
  · exact ⟨_, _, rfl, Nat.le_refl _⟩
  · exact ⟨_, _, rfl, h1.1⟩
theorem Own.modify {w0 w : World} {g : Nat} {o : Obj} {R : HProp} (h : Own w0 (blk g o * R) w) (f : Obj → Obj) : Own w0 (blk g (f o) * R) { w with heap := w.heap.modify g f } :=
  h.set rfl rfl rfl (by simp) (fun k _ hk => by simp [Array.getElem?_modify, Ne.symm hk]) (by show (w.heap.modify g f)[g]? = _; rw [Array.getElem?_modify, if_pos rfl, h.blk_at.1]; rfl)
theorem Own.freeze {w0 w : World} {g n : Nat} {o : Obj} {R : HProp} (h : Own w0 (blk g o * R) w) : Own w0 R (w.freeze ⟨g, 0, none⟩ n) := by
  unfold World.freeze
  split
  · exact h.drop
  · exact (h.modify _).drop
/-- The builder in block b holds the bytes l. -/
def BuO (b : Nat) (l : List UInt8) : HProp := hex fun q : Value × Value => pur (q.1 = .pointer none ∨ q.1 = .pointer (some ⟨b, 0, none⟩)) * (blk b (.cells #[q.1, q.2] 42 (0, 0)) * RowB q.2 (Lib.byteCells l))
theorem Own.bu {w0 w : World} {b : Nat} {l : List UInt8} {R : HProp} (h : Own w0 (BuO b l * R) w) : ∃ p v, (p = .pointer none ∨ p = .pointer (some ⟨b, 0, none⟩)) ∧ Own w0 (blk b (.cells #[p, v] 42 (0, 0)) * (RowB v (Lib.byteCells l) * R)) w := by
  obtain ⟨⟨p, v⟩, h1⟩ := Own.ex h
  have h2 : Own w0 (pur (p = .pointer none ∨ p = .pointer (some ⟨b, 0, none⟩)) * (blk b (.cells #[p, v] 42 (0, 0)) * (RowB v (Lib.byteCells l) * R))) w := h1.perm (by simp only [star_assoc])
  obtain ⟨h3, h4⟩ := h2.pur_out
  exact ⟨p, v, h3, h4⟩
theorem Own.bu_mk {w0 w : World} {b : Nat} {l : List UInt8} {v : Value} {R : HProp} (h : Own w0 (blk b (.cells #[.pointer (some ⟨b, 0, none⟩), v] 42 (0, 0)) * (RowB v (Lib.byteCells l) * R)) w) : Own w0 (BuO b l * R) w := by
  refine Own.ex_mk (.pointer (some ⟨b, 0, none⟩), v) ?_
  have h2 := Own.pur_mk (φ := (Value.pointer (some ⟨b, 0, none⟩) = .pointer none ∨ Value.pointer (some ⟨b, 0, none⟩) = .pointer (some ⟨b, 0, none⟩))) (.inr rfl) h
  exact h2.perm (by simp only [star_assoc])
theorem Own.bu_new {w0 w : World} {R : HProp} (h : Own w0 R w) : Own w0 (BuO w.heap.size [] * R) (w.alloc (.cells #[.pointer none, .slice none 0 0] 42)) := by
  have h1 := h.alloc (.cells #[.pointer none, .slice none 0 0] 42)
  refine Own.ex_mk (.pointer none, .slice none 0 0) ?_
  have h2 := Own.pur_mk (φ := (Value.pointer none = .pointer none ∨ Value.pointer none = .pointer (some ⟨w.heap.size, 0, none⟩))) (.inl rfl) h1
  refine h2.perm ?_
  show _ = pur _ * (blk _ _ * RowB (.slice none 0 0) []) * R
  rw [RowB_nil, star_emp, star_assoc]
theorem bytes_str (s : List UInt8) : Lib.strCells (tx s) = Lib.byteCells s := by
  unfold Lib.strCells Lib.byteCells
  rw [tx_list]
  first | done | rfl | simp
set_option maxRecDepth 100000 in
set_option maxHeartbeats 4000000 in
theorem buCopy_any {w0 w : World} {R : HProp} (b : Nat) (p v : Value) (hp : p = .pointer none ∨ p = .pointer (some ⟨b, 0, none⟩)) (h : Own w0 (blk b (.cells #[p, v] 42 (0, 0)) * R) w) :
    Calls Tryz.prog 36 #[.pointer (some ⟨b, 0, none⟩)] w fun e w' => e = .returned (.tuple #[]) ∧ Own w0 (blk b (.cells #[.pointer (some ⟨b, 0, none⟩), v] 42 (0, 0)) * R) w' := by
  rcases hp with rfl | rfl
  · refine (bCopy_fresh b ((h.cell 0).trans rfl) (by simp [World.shape?, h.blk_at.1]) (h.free 0 none)).mono ?_
    rintro e w' ⟨rfl, rfl⟩
    exact ⟨rfl, h.setCell (i := 0)⟩
  · refine (bCopy_used b ((h.cell 0).trans rfl)).mono ?_
    rintro e w' ⟨rfl, rfl⟩
    exact ⟨rfl, h⟩
set_option maxRecDepth 100000 in
set_option maxHeartbeats 4000000 in
theorem buWrite_any {w0 w : World} {R : HProp} (b : Nat) (l s : List UInt8) (hlen : l.length + s.length ≤ 140737488355328) (h : Own w0 (BuO b l * R) w) :
    Calls Tryz.prog 13 #[.pointer (some ⟨b, 0, none⟩), .string (tx s)] w fun e w' => ∃ v, e = .returned (.tuple #[v, .nilIface]) ∧ Own w0 (BuO b (l ++ s) * R) w' := by
  obtain ⟨p, v, hp, ho⟩ := h.bu
  have hcp := buCopy_any b p v hp ho
  have hbl : (Lib.byteCells l).length = l.length := Lib.byteCells_length ..
  have hln : ∀ (ty : TypeId) (w : World), (Builtin.len_ #[9] ty #[.string (tx s)]).run Tryz.prog w = .ok (.int .i64 (s.length : Int)) w := fun ty w => by
    rw [run_len_string w _ _ _ Tryz.underlying9, tx_size]; rfl
  have hsc : Lib.byteCells l ++ Lib.strCells (tx s) = Lib.byteCells (l ++ s) := by rw [bytes_str, ← Lib.byteCells_append]
  have hsz := tx_size s
  obtain ⟨S, hS⟩ : ∃ S, S = tx s := ⟨_, rfl⟩
  rw [← hS] at hln hsc hsz ⊢
  obtain ⟨n, hn⟩ : ∃ n, n = s.length := ⟨_, rfl⟩
  rw [← hn] at hln
  have H := Lib.hid h; have HO := Lib.hid ho; have HCP := Lib.hid hcp; have HS := Lib.hid hS; have HSC := Lib.hid hsc; have HBL := Lib.hid hbl; have HN := Lib.hid hn; have HP := Lib.hid hp; have HLEN := Lib.hid hlen
  clear h ho hcp hS hsc hbl hn hp hlen
  go_enter Tryz.func13, Tryz.ntmps13
  go_wp2_with fail
  refine HCP.out.mono ?_
  rintro e w1 ⟨rfl, ho1⟩
  have c0 : w1.cell? ⟨b, 0, none⟩ = some (.pointer (some ⟨b, 0, none⟩)) := (ho1.cell 0).trans rfl
  have c1 : w1.cell? ⟨b, 1, none⟩ = some v := (ho1.cell 1).trans rfl
  have ho2 : Own w0 (RowB v (Lib.byteCells l) * (blk b (.cells #[.pointer (some ⟨b, 0, none⟩), v] 42 (0, 0)) * R)) w1 := ho1.perm (by ac_rfl)
  have HO2 := Lib.hid ho2
  have hll : (Lib.byteCells l).length + S.size ≤ 140737488355328 := by rw [HBL.out, hsz]; exact HLEN.out
  have HLL := Lib.hid hll
  clear ho1 ho2 hll
  go_wp2_with (at_builtin; refine wpList_appB rfl _ _ rfl rfl rfl HO2.out HLL.out ?_; intro v' w2 ho3; rw [HSC.out] at ho3; obtain ⟨ao, cp, rfl, _⟩ := Own.rowB_shape ho3; have HO3 : Hid (Own w0 (blk b (.cells #[.pointer (some ⟨b, 0, none⟩), v] 42 (0, 0)) * (RowB (.slice ao (Lib.byteCells (l ++ s)).length cp) (Lib.byteCells (l ++ s)) * R)) w2) := Lib.hid (ho3.perm (by ac_rfl)); have d0 : w2.cell? ⟨b, 0, none⟩ = some (.pointer (some ⟨b, 0, none⟩)) := (HO3.out.cell 0).trans rfl; have d1 : w2.cell? ⟨b, 1, none⟩ = some v := (HO3.out.cell 1).trans rfl; have f1 := HO3.out.free 1 none; have HO4 : Hid (Own w0 (BuO b (l ++ s) * R) (w2.setCell ⟨b, 1, none⟩ (.slice ao (Lib.byteCells (l ++ s)).length cp))) := Lib.hid (Own.bu_mk (HO3.out.setCell (i := 1) (v := .slice ao (Lib.byteCells (l ++ s)).length cp))); clear ho3 HO3)
  go_ret2
  first | exact ⟨_, rfl, HO4.out⟩ | exact ⟨⟨_, rfl⟩, HO4.out⟩
set_option maxRecDepth 100000 in
set_option maxHeartbeats 4000000 in
theorem buString_any {w0 w : World} {R : HProp} (b : Nat) (l : List UInt8) (h : Own w0 (BuO b l * R) w) :
    Calls Tryz.prog 16 #[.pointer (some ⟨b, 0, none⟩)] w fun e w' => e = .returned (.string (tx l)) ∧ Own w0 R w' := by
  obtain ⟨p, v, hp, ho⟩ := h.bu
  have hbl : (Lib.byteCells l).length = l.length := Lib.byteCells_length ..
  have hbd : Own w0 R w.drew := h.drop.drew
  have mixed : Tryz.prog.follows Departure.mixedOrders = true := by kernel_rfl
  have hUS0 : ∀ (W : World) (q : Option Addr), (Builtin.unsafeString_ #[108, 3] 9 #[.pointer q, .int .i64 0]).run Tryz.prog W = .ok (.string .empty) W := fun W q => Lib.run_unsafeString_none W _ _ _ q
  have ho2 : Own w0 (RowB v (Lib.byteCells l) * (blk b (.cells #[p, v] 42 (0, 0)) * R)) w := ho.perm (by ac_rfl)
  have c1 : w.drew.cell? ⟨b, 1, none⟩ = some v := (ho.drew.cell 1).trans rfl
  rcases ho2.rowB with ⟨rfl, hn, _⟩ | ⟨g, cap, cur, rfl, ⟨h1, hcpos⟩, h2, h3, h4, ho3⟩
  · have hl : l = [] := List.eq_nil_of_length_eq_zero (by rw [← hbl, hn]; rfl)
    subst hl
    have hSD : (Builtin.unsafeSliceData_ #[40] 108 #[.slice none 0 0]).run Tryz.prog w.drew = .ok (.pointer none) w.drew := rfl
    have H := Lib.hid h; have HO := Lib.hid ho; have HO2 := Lib.hid ho2; have HBD := Lib.hid hbd
    clear h ho ho2 hbd
    go_enter Tryz.func16, Tryz.ntmps16
    go_wp2
    go_region_o
    all_goals (go_wp2; go_ret; exact ⟨rfl, HBD.out⟩)
  · rw [hbl] at c1 h1 h4
    have hg := ho3.drew.blk_at.1
    have hge := ho3.blk_at.2
    have hown : w.drew.ownsRow 0 5 1 (.slice (some ⟨g, 0, none⟩) l.length cap) l.length (Lib.byteCells l) := ⟨by rw [hbl]; simp, .inr ⟨g, cap, cur, rfl, Nat.zero_le _, hg, h1, h2, h3, h4⟩⟩
    by_cases h0 : l = []
    · subst h0
      have hSD : (Builtin.unsafeSliceData_ #[40] 108 #[.slice (some ⟨g, 0, none⟩) 0 cap]).run Tryz.prog w.drew = .ok (.pointer (some ⟨g, 0, none⟩)) w.drew :=
        Lib.run_unsafeSliceData_row _ _ _ _ _ _ (by omega)
      have c1' : w.drew.cell? ⟨b, 1, none⟩ = some (.slice (some ⟨g, 0, none⟩) 0 cap) := c1
      clear c1
      have H := Lib.hid h; have HO := Lib.hid ho; have HO2 := Lib.hid ho2; have HBD := Lib.hid hbd; have HO3 := Lib.hid ho3; have HOWN := Lib.hid hown; have HG := Lib.hid hg
      clear h ho ho2 hbd ho3 hown hg
      go_enter Tryz.func16, Tryz.ntmps16
      go_wp2
      go_region_o
      all_goals (go_wp2; go_ret; exact ⟨rfl, HBD.out⟩)
    · have hl0 : l.length ≠ 0 := by simpa using h0
      have hSD : (Builtin.unsafeSliceData_ #[40] 108 #[.slice (some ⟨g, 0, none⟩) l.length cap]).run Tryz.prog w.drew = .ok (.pointer (some ⟨g, 0, none⟩)) w.drew :=
        Lib.run_unsafeSliceData_row _ _ _ _ _ _ (by omega)
      have hUS : (Builtin.unsafeString_ #[108, 3] 9 #[.pointer (some ⟨g, 0, none⟩), .int .i64 l.length]).run Tryz.prog w.drew = .ok (.string ⟨l.toArray⟩) (w.drew.freeze ⟨g, 0, none⟩ l.length) := by
        refine Lib.run_unsafeString_row w.drew 108 3 9 5 Tryz.underlying108 bld_one g cur.size (by simp [World.shape?, hg]) l h0 (by omega) (by unfold maxLen at h2; omega) ?_
        intro j x hx
        exact hown.cells (g := g) rfl j (.int .u8 x.toNat) (by simp [Lib.byteCells, hx])
      have hfz : Own w0 R (w.drew.freeze ⟨g, 0, none⟩ l.length) := ho3.drew.freeze.drop
      clear hUS0
      have H := Lib.hid h; have HO := Lib.hid ho; have HO2 := Lib.hid ho2; have HBD := Lib.hid hbd; have HO3 := Lib.hid ho3; have HOWN := Lib.hid hown; have HG := Lib.hid hg; have HFZ := Lib.hid hfz
      clear h ho ho2 hbd ho3 hown hg hfz
      go_enter Tryz.func16, Tryz.ntmps16
      go_wp2
      go_region_o
      all_goals (go_wp2; go_ret; exact ⟨rfl, HFZ.out⟩)
end Go.Proofs.YtdfjbnfdknpahaaGreatDoor
