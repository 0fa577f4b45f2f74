/- Words of 32 bits, and what a digest does with them; nothing of the program. -/
import Derived.Test.YtpghbkkjdfaflaaArr
import Derived.Test.YtpghbkkjdfaflaaNum
set_option linter.unusedVariables false
set_option linter.unusedSimpArgs false
namespace Go.SL
open Go.RowKit
def Rng (x : Int) : Prop := 0 ≤ x ∧ x < 4294967296
def toB (x : Int) : BitVec 32 := BitVec.ofInt 32 x
theorem toB_toNat (b : BitVec 32) : toB (b.toNat : Int) = b := by
  unfold toB
  rw [BitVec.ofInt_natCast, BitVec.ofNat_toNat]
  simp
theorem wrapRng (x : Int) : Rng (IntKind.u32.wrap x) := by rw [wrap_u32]; unfold Rng; omega
theorem wrap_nat (b : BitVec 32) : IntKind.u32.wrap (b.toNat : Int) = (b.toNat : Int) := by
  rw [wrap_u32]
  have := b.isLt
  omega
theorem bAnd (x y : Int) : bits .and .u32 x y = ((toB x &&& toB y).toNat : Int) := by
  have : bits .and .u32 x y = IntKind.u32.wrap (((BitVec.ofInt 32 x) &&& BitVec.ofInt 32 y).toNat : Int) := rfl
  rw [this]; exact wrap_nat _
theorem bOr (x y : Int) : bits .or .u32 x y = ((toB x ||| toB y).toNat : Int) := by
  have : bits .or .u32 x y = IntKind.u32.wrap (((BitVec.ofInt 32 x) ||| BitVec.ofInt 32 y).toNat : Int) := rfl
  rw [this]; exact wrap_nat _
theorem bXor (x y : Int) : bits .xor .u32 x y = ((toB x ^^^ toB y).toNat : Int) := by
  have : bits .xor .u32 x y = IntKind.u32.wrap (((BitVec.ofInt 32 x) ^^^ BitVec.ofInt 32 y).toNat : Int) := rfl
  rw [this]; exact wrap_nat _
theorem natRng (b : BitVec 32) : Rng (b.toNat : Int) := by
  have := b.isLt
  unfold Rng
  omega
def maxU : Int := if IntKind.u32.signed then -1 else IntKind.u32.max
theorem toB_max : toB maxU = BitVec.allOnes 32 := by decide
/-- Of three words: one or the other; more than half. -/
theorem choose_eq (b c d : Int) : bits .or .u32 (bits .and .u32 b c) (bits .and .u32 (bits .xor .u32 maxU b) d) = bits .xor .u32 d (bits .and .u32 b (bits .xor .u32 c d)) := by
  simp only [bAnd, bOr, bXor, toB_toNat, toB_max]
  congr 2
  apply BitVec.eq_of_getLsbD_eq
  intro i hi
  simp only [BitVec.getLsbD_or, BitVec.getLsbD_and, BitVec.getLsbD_xor, BitVec.getLsbD_allOnes, hi, decide_true]
  cases (toB b).getLsbD i <;> cases (toB c).getLsbD i <;> cases (toB d).getLsbD i <;> rfl
theorem major_eq (b c d : Int) : bits .or .u32 (bits .or .u32 (bits .and .u32 b c) (bits .and .u32 b d)) (bits .and .u32 c d) = bits .or .u32 (bits .and .u32 b c) (bits .and .u32 d (bits .or .u32 b c)) := by
  simp only [bAnd, bOr, bXor, toB_toNat]
  congr 2
  apply BitVec.eq_of_getLsbD_eq
  intro i hi
  simp only [BitVec.getLsbD_or, BitVec.getLsbD_and]
  cases (toB b).getLsbD i <;> cases (toB c).getLsbD i <;> cases (toB d).getLsbD i <;> rfl
/-- A word turned to the left. -/
def rotl (n : Nat) (x : Int) : Int := bits .or .u32 (IntKind.u32.wrap (x * 2 ^ n)) (x.fdiv (2 ^ (32 - n)))
theorem rotl_rng (n : Nat) (x : Int) : Rng (rotl n x) := by unfold rotl; rw [bOr]; exact natRng _
def mixF (i : Nat) (b c d : Int) : Int :=
  if i < 20 then bits .or .u32 (bits .and .u32 b c) (bits .and .u32 (bits .xor .u32 maxU b) d)
  else if i < 40 then bits .xor .u32 (bits .xor .u32 b c) d
  else if i < 60 then bits .or .u32 (bits .or .u32 (bits .and .u32 b c) (bits .and .u32 b d)) (bits .and .u32 c d)
  else bits .xor .u32 (bits .xor .u32 b c) d
def mixK (i : Nat) : Int := if i < 20 then 1518500249 else if i < 40 then 1859775393 else if i < 60 then 2400959708 else 3395469782
/-! ### A block's words -/
def wNum (s : ByteArray) (i : Nat) : Int := beN (s.extract (4 * i) (4 * i + 4))
def wMix (l : List Int) (i : Nat) : Int := rotl 1 (bits .xor .u32 (bits .xor .u32 (bits .xor .u32 (l.getD (i - 3) 0) (l.getD (i - 8) 0)) (l.getD (i - 14) 0)) (l.getD (i - 16) 0))
def wVal (s : ByteArray) (l : List Int) (i : Nat) : Int := if i < 16 then wNum s i else wMix l i
def wAt (s : ByteArray) : Nat → List Int
  | 0 => List.replicate 80 0
  | i + 1 => (wAt s i).set i (wVal s (wAt s i) i)
theorem wAt_len (s : ByteArray) : ∀ i, (wAt s i).length = 80
  | 0 => List.length_replicate
  | i + 1 => by rw [wAt, List.length_set, wAt_len s i]
def wAll (s : ByteArray) : List Int := wAt s 80
theorem wAll_len (s : ByteArray) : (wAll s).length = 80 := wAt_len s 80
/-! ### Five words -/
structure St5 where
  a : Int
  b : Int
  c : Int
  d : Int
  e : Int
def St5.l (x : St5) : List Int := [x.a, x.b, x.c, x.d, x.e]
def begin5 : St5 := ⟨1732584193, 4023233417, 2562383102, 271733878, 3285377520⟩
def step5 (x : St5) (w : Int) (i : Nat) : St5 :=
  ⟨IntKind.u32.wrap (IntKind.u32.wrap (IntKind.u32.wrap (IntKind.u32.wrap (rotl 5 x.a + mixF i x.b x.c x.d) + x.e) + mixK i) + w), x.a, rotl 30 x.b, x.c, x.d⟩
def rnd5 (h : St5) (s : ByteArray) : Nat → St5
  | 0 => h
  | i + 1 => step5 (rnd5 h s i) ((wAll s).getD i 0) i
def block5 (h : St5) (s : ByteArray) : St5 :=
  ⟨IntKind.u32.wrap (h.a + (rnd5 h s 80).a), IntKind.u32.wrap (h.b + (rnd5 h s 80).b), IntKind.u32.wrap (h.c + (rnd5 h s 80).c), IntKind.u32.wrap (h.d + (rnd5 h s 80).d), IntKind.u32.wrap (h.e + (rnd5 h s 80).e)⟩
/-! ### All -/
def padded (s : ByteArray) : ByteArray := (s ++ byt [128] ++ byt (List.replicate ((119 - (s.size % 64 : Nat)) % 64 : Int).toNat 0)) ++ be 8 (IntKind.u64.wrap ((s.size : Int) * 8))
def hash5 (t : ByteArray) : Nat → St5
  | 0 => begin5
  | j + 1 => block5 (hash5 t j) (t.extract (64 * j) (64 * j + 64))
def out5 (l : List Int) : ByteArray := l.foldl (fun o x => o ++ be 4 x) ⟨#[]⟩
def digest (s : ByteArray) : ByteArray := out5 (hash5 (padded s) ((padded s).size / 64)).l
def rowU (x : Int) : List Value := [.int .u32 x]
end Go.SL
