/- Words as bytes, plainly: packing, unpacking, and that they undo one another. -/
import Derived.Test.YtddbjcpfgjcmnaaVec
namespace Go.Proofs.Ytddbjcpfgjcmnaa
set_option linter.unusedVariables false
set_option linter.unusedSimpArgs false
open Go.RowKit
def saidErr (who word : Int) (l : List Int) : Nat := if isMember who = false then 1 else if isWord word = false then 1 else vecErr l
def byt (n : Int) : UInt8 := UInt8.ofNat n.toNat
def dig3 (n : Int) : List UInt8 := [byt (n / 65536), byt (n / 256), byt n]
def wHead (who word : Int) (l : List Int) : List UInt8 := byt who :: byt word :: l.flatMap dig3
def sumB (l : List UInt8) : UInt8 := l.foldl (· + ·) 0
def packB (who word : Int) (l : List Int) : List UInt8 := wHead who word l ++ [sumB (wHead who word l)]
def packS (who word : Int) (l : List Int) : ByteArray := if saidErr who word l = 0 then ⟨(packB who word l).toArray⟩ else ⟨#[]⟩
def bn (b : List UInt8) (k : Nat) : Int := ((b.getD k 0).toNat : Int)
def num3 (b : List UInt8) (k : Nat) : Int := (bn b k * 256 + bn b (k + 1)) * 256 + bn b (k + 2)
def clkN (b : List UInt8) (k : Nat) : List Int := (List.range k).map fun j => num3 b (2 + 3 * j)
def unpackErr (b : List UInt8) : Nat := if b.length ≠ 18 then 2 else if sumB (b.take 17) ≠ b.getD 17 0 then 2 else if saidErr (bn b 0) (bn b 1) (clkN b 5) ≠ 0 then 2 else 0
def unpackWho (b : List UInt8) : Int := if unpackErr b = 0 then bn b 0 else 0
def unpackWord (b : List UInt8) : Int := if unpackErr b = 0 then bn b 1 else 0
def unpackClock (b : List UInt8) : List Int := if unpackErr b = 0 then clkN b 5 else []
theorem clkN_succ (b : List UInt8) (k : Nat) : clkN b (k + 1) = clkN b k ++ [num3 b (2 + 3 * k)] := by unfold clkN; rw [List.range_succ, List.map_append]; rfl
theorem clkN_len (b : List UInt8) (k : Nat) : (clkN b k).length = k := by simp [clkN]
theorem sumB_snoc (l : List UInt8) (x : UInt8) : sumB (l ++ [x]) = sumB l + x := by simp [sumB, List.foldl_append]
theorem sumB_next {l : List UInt8} {k : Nat} (h : k < l.length) : sumB (l.take (k + 1)) = sumB (l.take k) + l[k] := by rw [List.take_succ_eq_append_getElem h, sumB_snoc]
theorem bn_byte (b : List UInt8) (k : Nat) : 0 ≤ bn b k ∧ bn b k ≤ 255 := by
  unfold bn
  have := (b.getD k 0).toNat_lt
  omega
theorem num3_bd (b : List UInt8) (k : Nat) : 0 ≤ num3 b k ∧ num3 b k ≤ 16777215 := by
  have h1 := bn_byte b k; have h2 := bn_byte b (k + 1); have h3 := bn_byte b (k + 2)
  unfold num3; omega
theorem clkN_I64 (b : List UInt8) (k : Nat) : ∀ x ∈ clkN b k, I64 x := by
  intro x hx
  obtain ⟨j, _, rfl⟩ := List.mem_map.1 hx
  have := num3_bd b (2 + 3 * j)
  unfold I64; omega
theorem byt_toNat (n : Int) (h : 0 ≤ n) : ((byt n).toNat : Int) = n % 256 := by
  unfold byt
  rw [UInt8.toNat_ofNat']
  omega
theorem byt_bn (x : UInt8) (n : Int) (h : 0 ≤ n) (h2 : n % 256 = (x.toNat : Int)) : byt n = x := by
  apply UInt8.toNat_inj.1
  have := byt_toNat n h
  omega
theorem list18 (b : List UInt8) (h : b.length = 18) : ∃ b0 b1 b2 b3 b4 b5 b6 b7 b8 b9 b10 b11 b12 b13 b14 b15 b16 b17 : UInt8, b = [b0, b1, b2, b3, b4, b5, b6, b7, b8, b9, b10, b11, b12, b13, b14, b15, b16, b17] := by
  match b, h with
  | [b0, b1, b2, b3, b4, b5, b6, b7, b8, b9, b10, b11, b12, b13, b14, b15, b16, b17], _ => exact ⟨b0, b1, b2, b3, b4, b5, b6, b7, b8, b9, b10, b11, b12, b13, b14, b15, b16, b17, rfl⟩
theorem list5 (l : List Int) (h : l.length = 5) : ∃ a b c d e : Int, l = [a, b, c, d, e] := by
  match l, h with
  | [a, b, c, d, e], _ => exact ⟨a, b, c, d, e, rfl⟩
theorem dig3_num (a b c : UInt8) : dig3 (((a.toNat : Int) * 256 + b.toNat) * 256 + c.toNat) = [a, b, c] := by
  have ha := a.toNat_lt; have hb := b.toNat_lt; have hc := c.toNat_lt
  unfold dig3
  rw [byt_bn a _ (by omega) (by omega), byt_bn b _ (by omega) (by omega), byt_bn c _ (by omega) (by omega)]
theorem saidErr0 {who word : Int} {l : List Int} (h : saidErr who word l = 0) : isMember who = true ∧ isWord word = true ∧ vecErr l = 0 := by
  unfold saidErr at h
  cases h1 : isMember who
  · rw [if_pos h1] at h; cases h
  rw [if_neg (by rw [h1]; simp)] at h
  cases h2 : isWord word
  · rw [if_pos h2] at h; cases h
  rw [if_neg (by rw [h2]; simp)] at h
  exact ⟨rfl, rfl, h⟩
/-- What was read as a word is its bytes. -/
theorem pack_unpack {b : List UInt8} (h : unpackErr b = 0) : saidErr (bn b 0) (bn b 1) (clkN b 5) = 0 ∧ packB (bn b 0) (bn b 1) (clkN b 5) = b := by
  unfold unpackErr at h
  by_cases h1 : b.length = 18
  rotate_left
  · rw [if_pos h1] at h; cases h
  rw [if_neg (by omega)] at h
  by_cases h2 : sumB (b.take 17) = b.getD 17 0
  rotate_left
  · rw [if_pos h2] at h; cases h
  rw [if_neg (by simpa using h2)] at h
  by_cases h3 : saidErr (bn b 0) (bn b 1) (clkN b 5) = 0
  rotate_left
  · rw [if_pos h3] at h; cases h
  refine ⟨h3, ?_⟩
  clear h h3
  obtain ⟨b0, b1, b2, b3, b4, b5, b6, b7, b8, b9, b10, b11, b12, b13, b14, b15, b16, b17, rfl⟩ := list18 b h1
  have e0 : byt (b0.toNat : Int) = b0 := byt_bn b0 _ (by omega) (by have := b0.toNat_lt; omega)
  have e1 : byt (b1.toNat : Int) = b1 := byt_bn b1 _ (by omega) (by have := b1.toNat_lt; omega)
  have hh : wHead (b0.toNat : Int) (b1.toNat : Int) [((b2.toNat : Int) * 256 + b3.toNat) * 256 + b4.toNat, ((b5.toNat : Int) * 256 + b6.toNat) * 256 + b7.toNat, ((b8.toNat : Int) * 256 + b9.toNat) * 256 + b10.toNat, ((b11.toNat : Int) * 256 + b12.toNat) * 256 + b13.toNat, ((b14.toNat : Int) * 256 + b15.toNat) * 256 + b16.toNat] = [b0, b1, b2, b3, b4, b5, b6, b7, b8, b9, b10, b11, b12, b13, b14, b15, b16] := by
    unfold wHead
    simp only [List.flatMap_cons, List.flatMap_nil, dig3_num, e0, e1]
    rfl
  have h2' : sumB [b0, b1, b2, b3, b4, b5, b6, b7, b8, b9, b10, b11, b12, b13, b14, b15, b16] = b17 := h2
  show packB (b0.toNat : Int) (b1.toNat : Int) [((b2.toNat : Int) * 256 + b3.toNat) * 256 + b4.toNat, ((b5.toNat : Int) * 256 + b6.toNat) * 256 + b7.toNat, ((b8.toNat : Int) * 256 + b9.toNat) * 256 + b10.toNat, ((b11.toNat : Int) * 256 + b12.toNat) * 256 + b13.toNat, ((b14.toNat : Int) * 256 + b15.toNat) * 256 + b16.toNat] = _
  unfold packB
  rw [hh, h2']
  rfl
theorem wHead_len {who word : Int} {l : List Int} (h : l.length = 5) : (wHead who word l).length = 17 := by
  obtain ⟨a, b, c, d, e, rfl⟩ := list5 l h
  rfl
theorem packB_len {who word : Int} {l : List Int} (h : l.length = 5) : (packB who word l).length = 18 := by
  unfold packB; rw [List.length_append, wHead_len h]; rfl
theorem num_dig3 (n : Int) (h : 0 ≤ n ∧ n ≤ 1000000) : (((byt (n / 65536)).toNat : Int) * 256 + (byt (n / 256)).toNat) * 256 + (byt n).toNat = n := by
  rw [byt_toNat _ (by omega), byt_toNat _ (by omega), byt_toNat _ (by omega)]
  omega
/-- What was packed is read as it was. -/
theorem unpack_pack {who word : Int} {l : List Int} (h : saidErr who word l = 0) : unpackErr (packB who word l) = 0 ∧ bn (packB who word l) 0 = who ∧ bn (packB who word l) 1 = word ∧ clkN (packB who word l) 5 = l := by
  obtain ⟨hm, hw, hv⟩ := saidErr0 h
  obtain ⟨h5, hb⟩ := vecErr0 hv
  have hlen : (packB who word l).length = 18 := packB_len h5
  have hhl : (wHead who word l).length = 17 := wHead_len h5
  have ht : (packB who word l).take 17 = wHead who word l := by unfold packB; rw [List.take_append_of_le_length (by omega), List.take_of_length_le (by omega)]
  have hs : (packB who word l).getD 17 0 = sumB (wHead who word l) := by unfold packB; rw [List.getD_eq_getElem?_getD, List.getElem?_append_right (by omega), hhl]; rfl
  have hm' : 0 ≤ who ∧ who < 5 := by simpa [isMember] using hm
  have hw' : 1 ≤ word ∧ word ≤ 30 := by simpa [isWord] using hw
  have e0 : ((byt who).toNat : Int) = who := by rw [byt_toNat _ (by omega)]; omega
  have e1 : ((byt word).toNat : Int) = word := by rw [byt_toNat _ (by omega)]; omega
  obtain ⟨a, b, c, d, e, rfl⟩ := list5 l h5
  have g0 : bn (packB who word [a, b, c, d, e]) 0 = who := e0
  have g1 : bn (packB who word [a, b, c, d, e]) 1 = word := e1
  have g2 : clkN (packB who word [a, b, c, d, e]) 5 = [a, b, c, d, e] := by
    show [(((byt (a / 65536)).toNat : Int) * 256 + (byt (a / 256)).toNat) * 256 + (byt a).toNat, (((byt (b / 65536)).toNat : Int) * 256 + (byt (b / 256)).toNat) * 256 + (byt b).toNat, (((byt (c / 65536)).toNat : Int) * 256 + (byt (c / 256)).toNat) * 256 + (byt c).toNat, (((byt (d / 65536)).toNat : Int) * 256 + (byt (d / 256)).toNat) * 256 + (byt d).toNat, (((byt (e / 65536)).toNat : Int) * 256 + (byt (e / 256)).toNat) * 256 + (byt e).toNat] = _
    rw [num_dig3 a (hb a (by simp)), num_dig3 b (hb b (by simp)), num_dig3 c (hb c (by simp)), num_dig3 d (hb d (by simp)), num_dig3 e (hb e (by simp))]
  refine ⟨?_, g0, g1, g2⟩
  unfold unpackErr
  rw [if_neg (by omega), ht, hs, if_neg (by simp), g0, g1, g2, h]
  first | done | rfl | simp
def sumN (l : List UInt8) : Nat := (l.map UInt8.toNat).sum
theorem sumB_toNat : ∀ (l : List UInt8) (a : UInt8), (l.foldl (· + ·) a).toNat = (a.toNat + sumN l) % 256
  | [], a => by have := a.toNat_lt; simp [sumN]; try omega
  | x :: r, a => by
    rw [List.foldl_cons, sumB_toNat r]
    simp only [UInt8.toNat_add, sumN, List.map_cons, List.sum_cons]
    omega
theorem sumN_set : ∀ (l : List UInt8) (k : Nat) (x : UInt8) (h : k < l.length), sumN (l.set k x) + l[k].toNat = sumN l + x.toNat
  | y :: r, 0, x, _ => by simp [sumN]; omega
  | y :: r, k + 1, x, h => by
    have ih := sumN_set r k x (by simpa using h)
    simp only [sumN, List.set_cons_succ, List.map_cons, List.sum_cons, List.getElem_cons_succ] at ih ⊢
    omega
/-- With one byte another one it is none. -/
theorem unpack_set {who word : Int} {l : List Int} (h : saidErr who word l = 0) (k : Nat) (x : UInt8) (hk : k < 18) (hx : (packB who word l).getD k 0 ≠ x) : unpackErr ((packB who word l).set k x) = 2 := by
  obtain ⟨hm, hw, hv⟩ := saidErr0 h
  obtain ⟨h5, _⟩ := vecErr0 hv
  have hhl : (wHead who word l).length = 17 := wHead_len h5
  unfold packB at hx ⊢
  obtain ⟨A, hA⟩ : ∃ A, A = wHead who word l := ⟨_, rfl⟩
  rw [← hA] at hhl hx ⊢
  unfold unpackErr
  rw [if_neg (by rw [List.length_set, List.length_append, hhl]; simp)]
  by_cases h17 : k = 17
  · subst h17
    have ht : ((A ++ [sumB A]).set 17 x).take 17 = A := by
      rw [List.set_append_right _ _ (by omega), List.take_append_of_le_length (by omega), List.take_of_length_le (by omega)]
    rw [if_pos]
    rw [ht, List.getD_eq_getElem?_getD, List.getElem?_set_self (by rw [List.length_append, hhl]; simp)]
    rw [List.getD_eq_getElem?_getD, List.getElem?_append_right (by omega), hhl] at hx
    exact hx
  · have ht : ((A ++ [sumB A]).set k x).take 17 = A.set k x := by
      rw [List.set_append_left _ _ (by omega), List.take_append_of_le_length (by simp; omega), List.take_of_length_le (by simp; omega)]
    have hk17 : k < A.length := by omega
    have hl17 : ((A ++ [sumB A]).set k x).getD 17 0 = sumB A := by
      rw [List.getD_eq_getElem?_getD, List.getElem?_set_ne (by omega), List.getElem?_append_right (by omega), hhl]; rfl
    rw [List.getD_eq_getElem?_getD, List.getElem?_append_left hk17, List.getElem?_eq_getElem hk17] at hx
    rw [if_pos]
    rw [ht, hl17]
    intro he
    apply hx
    apply UInt8.toNat_inj.1
    have h1 := sumB_toNat (A.set k x) 0
    have h2 := sumB_toNat A 0
    have h3 := sumN_set A k x hk17
    have h4 := A[k].toNat_lt
    have h6 := x.toNat_lt
    unfold sumB at he
    rw [he, h2] at h1
    simp only [UInt8.toNat_zero] at h1
    show A[k].toNat = x.toNat
    omega
theorem bytes_ext {a b : ByteArray} (h : a.data.toList = b.data.toList) : a = b := by
  cases a; cases b
  simp only at h
  congr 1
  exact Array.toList_inj.1 h
theorem unpack_short {b : List UInt8} (h : b.length ≠ 18) : unpackErr b = 2 := by unfold unpackErr; rw [if_pos h]
end Go.Proofs.Ytddbjcpfgjcmnaa
