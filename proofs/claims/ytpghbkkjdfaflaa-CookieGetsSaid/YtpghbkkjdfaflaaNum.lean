/- Plain laws of bytes and numbers; nothing of the program. -/
import Derived.Test.YtpghbkkjdfaflaaSp
set_option linter.unusedVariables false
set_option linter.unusedSimpArgs false
namespace Go.SL
open Go.RowKit
/-- A number of bytes, the highest first. -/
def beL (l : List UInt8) : Nat := l.foldl (fun a b => a * 256 + b.toNat) 0
def beN (s : ByteArray) : Int := (beL s.data.toList : Int)
theorem beL_snoc (l : List UInt8) (b : UInt8) : beL (l ++ [b]) = beL l * 256 + b.toNat := by simp [beL, List.foldl_append]
theorem beL_lt : ∀ (n : Nat) (l : List UInt8), l.length = n → beL l < 256 ^ n
  | 0, l, h => by
    have : l = [] := List.length_eq_zero_iff.1 h
    subst this; simp [beL]
  | n + 1, l, h => by
    have hne : l ≠ [] := fun e => by subst e; simp at h
    have e := List.dropLast_concat_getLast hne
    rw [← e, beL_snoc]
    have h1 := beL_lt n l.dropLast (by simp [h])
    have h2 := (l.getLast hne).toNat_lt
    rw [Nat.pow_succ]
    omega
theorem or_byte (x b : Nat) (hx : x < 72057594037927936) (hb : b < 256) : bits .or .u64 (((x : Int) * 2 ^ (min (8 : Int).toNat 64))) (b : Int) = ((x * 256 + b : Nat) : Int) := by
  have h4 : x * 256 + b < 18446744073709551616 := Nat.lt_of_lt_of_le (Nat.add_lt_add_left hb _) (by rw [← Nat.succ_mul]; exact Nat.le_trans (Nat.mul_le_mul_right 256 hx) (Nat.le_refl _))
  have h7 : ((x * 256 + b : Nat) : Int) < 18446744073709551616 := Int.ofNat_lt.2 h4
  have h8 : (0 : Int) ≤ ((x * 256 + b : Nat) : Int) := Int.natCast_nonneg _
  have h9 : x * 256 < 18446744073709551616 := Nat.lt_of_le_of_lt (Nat.le_add_right _ _) h4
  have e1 : (x : Int) * 2 ^ (min (8 : Int).toNat 64) = ((x * 256 : Nat) : Int) := by
    show (x : Int) * 2 ^ 8 = _
    omega
  rw [e1]
  unfold bits
  have hk : IntKind.u64.bits = 64 := rfl
  simp only [hk]
  have h1 : (BitVec.ofInt 64 ((x * 256 : Nat) : Int)).toNat = x * 256 := by
    rw [BitVec.ofInt_natCast, BitVec.toNat_ofNat, Nat.mod_eq_of_lt h9]
  have h2 : (BitVec.ofInt 64 ((b : Nat) : Int)).toNat = b := by
    rw [BitVec.ofInt_natCast, BitVec.toNat_ofNat, Nat.mod_eq_of_lt (by omega)]
  have h3 : (BitVec.ofInt 64 ((x * 256 : Nat) : Int) ||| BitVec.ofInt 64 ((b : Nat) : Int)).toNat = x * 256 + b := by
    rw [BitVec.toNat_or, h1, h2]
    have := Nat.two_pow_add_eq_or_of_lt (i := 8) (b := b) (by simpa using hb) x
    rw [show x * 256 = 2 ^ 8 * x from by omega]
    omega
  have h5 : ((BitVec.ofInt IntKind.u64.bits ((x * 256 : Nat) : Int)) ||| BitVec.ofInt IntKind.u64.bits ((b : Nat) : Int)).toNat = x * 256 + b := h3
  rw [h5]
  have h6 : ∀ y : Int, 0 ≤ y → y < 18446744073709551616 → IntKind.u64.wrap y = y := by
    intro y h0 h1
    have e : IntKind.u64.wrap y = y % 18446744073709551616 := by
      unfold IntKind.wrap
      simp [IntKind.bits, IntKind.signed]
    rw [e]
    exact Int.emod_eq_of_lt h0 h1
  exact h6 _ h8 h7
theorem wrap_u32 (x : Int) : IntKind.u32.wrap x = x % 4294967296 := by
  unfold IntKind.wrap
  simp [IntKind.bits, IntKind.signed]
theorem wrap_u8 (x : Int) : IntKind.u8.wrap x = x % 256 := by
  unfold IntKind.wrap
  simp [IntKind.bits, IntKind.signed]
theorem wrap_u64 (x : Int) : IntKind.u64.wrap x = x % 18446744073709551616 := by
  unfold IntKind.wrap
  simp [IntKind.bits, IntKind.signed]
theorem wrap_i64 (x : Int) (h0 : -9223372036854775808 ≤ x) (h1 : x ≤ 9223372036854775807) : IntKind.i64.wrap x = x := by rw [IntKind.wrap_i64]; omega
theorem byteAt_eq (s : ByteArray) (i : Nat) (h : i < s.size) : byteAt s (i : Int) = ((s.data.toList[i]'(by simpa using h)).toNat : Int) := by
  unfold byteAt
  rw [dif_pos (by simpa using h)]
  simp
  rfl
theorem byteAt_range (s : ByteArray) (i : Int) : 0 ≤ byteAt s i ∧ byteAt s i ≤ 255 := by
  unfold byteAt
  split
  · rename_i h
    have := (s[i.toNat]'h).toNat_lt
    omega
  · omega
/-- A number's lowest bytes, the highest first. -/
def be : Nat → Int → ByteArray
  | 0, _ => byt []
  | k + 1, x => be k (x / 256) ++ byt [x % 256]
theorem byt_append (a b : List Int) : byt a ++ byt b = byt (a ++ b) := by
  apply ByteArray.ext
  simp [byt, ByteArray.data_append]
theorem byt_size (a : List Int) : (byt a).size = a.length := by simp [byt, ByteArray.size]
theorem be_size : ∀ (k : Nat) (x : Int), (be k x).size = k
  | 0, x => by simp [be, byt_size]
  | k + 1, x => by simp [be, byt_size, be_size k, ByteArray.size_append]
theorem be_four (x : Int) : be 4 x = byt [x / 16777216 % 256, x / 65536 % 256, x / 256 % 256, x % 256] := by
  have e1 : x / 256 / 256 = x / 65536 := by omega
  have e2 : x / 65536 / 256 = x / 16777216 := by omega
  simp only [be, byt_append, e1, e2]
  rfl
theorem be_two (x : Int) : be 2 x = byt [x / 256 % 256, x % 256] := by
  simp only [be, byt_append]
  rfl
theorem be_one (x : Int) : be 1 x = byt [x % 256] := by
  simp only [be, byt_append]
  rfl
theorem be20 : be 2 0 = ⟨#[0, 0]⟩ := by rfl
theorem byt_one (x : Int) : (byt [x]).data.toList = [UInt8.ofNat x.toNat] := by simp [byt]
theorem emod_two (x m : Int) (hm : 0 < m) : x / 256 % m * 256 + x % 256 = x % (256 * m) := by
  have h1 := Int.emod_add_mul_ediv (x / 256) m
  have h2 := Int.emod_nonneg (x / 256) (Int.ne_of_gt hm)
  have h3 := Int.emod_lt_of_pos (x / 256) hm
  have e : x = x / 256 % m * 256 + x % 256 + 256 * m * (x / 256 / m) := by
    have : 256 * m * (x / 256 / m) = 256 * (m * (x / 256 / m)) := by rw [Int.mul_assoc]
    rw [this]
    generalize m * (x / 256 / m) = z at *
    omega
  have h4 : (x / 256 % m * 256 + x % 256 + 256 * m * (x / 256 / m)) % (256 * m) = x / 256 % m * 256 + x % 256 := by
    rw [Int.add_mul_emod_self_left]
    exact Int.emod_eq_of_lt (by omega) (by omega)
  rw [← e] at h4
  exact h4.symm
theorem beN_be : ∀ (k : Nat) (x : Int), 0 ≤ x → beN (be k x) = x % (256 ^ k : Int)
  | 0, x, h => by simp [be, beN, byt, beL]
  | k + 1, x, h => by
    have ih := beN_be k (x / 256) (by omega)
    unfold beN at ih ⊢
    simp only [be, ByteArray.data_append, Array.toList_append, byt_one, beL_snoc]
    have h1 : (UInt8.ofNat (x % 256).toNat).toNat = (x % 256).toNat := by
      have : (x % 256).toNat < 256 := by omega
      show (x % 256).toNat % 2 ^ 8 = _
      omega
    rw [h1, Int.natCast_add, Int.natCast_mul, ih]
    have h2 : ((x % 256).toNat : Int) = x % 256 := by omega
    rw [h2]
    have h3 : (256 : Int) ^ (k + 1) = 256 * 256 ^ k := by rw [Int.pow_succ, Int.mul_comm]
    rw [h3]
    have hm : (0 : Int) < 256 ^ k := Int.pow_pos (by omega)
    exact emod_two x (256 ^ k) hm
theorem beN_be_lt (k : Nat) (x : Int) (h : 0 ≤ x) (h2 : x < 256 ^ k) : beN (be k x) = x := by
  rw [beN_be k x h, Int.emod_eq_of_lt h h2]
theorem ext_left (a b : ByteArray) : (a ++ b).extract 0 a.size = a := by
  apply ByteArray.ext
  simp [ByteArray.data_extract, ByteArray.data_append]
theorem ext_right (a b : ByteArray) : (a ++ b).extract a.size (a ++ b).size = b := by
  apply ByteArray.ext
  rw [ByteArray.data_extract, ByteArray.data_append, ByteArray.size_append, Array.extract_append]
  have e1 : a.data.extract a.size (a.size + b.size) = #[] := by
    apply Array.eq_empty_of_size_eq_zero
    have : a.data.size = a.size := rfl
    rw [Array.size_extract, this]
    omega
  have e2 : a.size - a.data.size = 0 := by show a.size - a.size = 0; omega
  have e3 : a.size + b.size - a.data.size = b.data.size := by show a.size + b.size - a.size = b.size; omega
  rw [e1, e2, e3]
  simp
theorem ext_leftN (k : Nat) (a b : ByteArray) (h : a.size = k) : (a ++ b).extract 0 k = a := by subst h; exact ext_left a b
theorem ext_rightN (k : Nat) (a b : ByteArray) (h : a.size = k) : (a ++ b).extract k (a ++ b).size = b := by subst h; exact ext_right a b
end Go.SL
