/- What each operation does, over assertions: one lemma a form. -/
import Derived.Test.YtpghbkkjdfaflaaSr
import Derived.Laws.CopyRow
set_option linter.unusedVariables false
set_option linter.unusedSimpArgs false
namespace Go.SL
open Go.RowKit

/-! ### 1. What is asked of a type, found by its number -/
class TCell (P : Program) (t : TypeId) : Prop where
  agg : ∀ w, (isAgg t).run P w = .ok false w
  size : ∀ w, (sizeOf t).run P w = .ok 1 w
class TAgg (P : Program) (t : TypeId) (n : outParam Nat) : Prop where
  agg : ∀ w, (isAgg t).run P w = .ok true w
  size : ∀ w, (sizeOf t).run P w = .ok n w
class TSize (P : Program) (t : TypeId) (n : outParam Nat) : Prop where
  size : ∀ w, (sizeOf t).run P w = .ok n w
class TInt (P : Program) (t : TypeId) (k : outParam IntKind) : Prop where
  und : P.underlying t = some (.int k)
class TStr (P : Program) (t : TypeId) : Prop where
  und : P.underlying t = some .string
class TSlc (P : Program) (t : TypeId) (e : outParam TypeId) : Prop where
  und : P.underlying t = some (.slice e)
class TPtr (P : Program) (t : TypeId) (e : outParam TypeId) : Prop where
  und : P.underlying t = some (.pointer e)
class TBool (P : Program) (t : TypeId) : Prop where
  und : P.underlying t = some .bool
class TInfo (P : Program) (t : TypeId) (sz : outParam Nat) (bytes : outParam Nat) : Prop where
  info : (P.info? t).map (fun i => (i.size, i.bytes)) = some (sz, bytes)
class TArr (P : Program) (t : TypeId) (m : outParam Nat) (e : outParam TypeId) : Prop where
  und : P.underlying t = some (.array m e)
class TMap (P : Program) (t : TypeId) (k : outParam TypeId) (v : outParam TypeId) : Prop where
  und : P.underlying t = some (.map k v)
class TZero (P : Program) (t : TypeId) (z : outParam Value) : Prop where
  zero : ∀ w, (zeroValue t).run P w = .ok z w
def fldOf (P : Program) (s f : Nat) : Option (Nat × TypeId) := match P.underlying s with
  | some (.struct fs) => (fs[f]?).map fun x => (x.offset, x.type)
  | _ => none
class TFld (P : Program) (s f : Nat) (off : outParam Nat) (ft : outParam TypeId) : Prop where
  addr : ∀ a w, (Instr.fieldAt s (.pointer (some a)) f).run P w = .ok (.pointer (some (a.add off))) w
  fld : fldOf P s f = some (off, ft)
class TFn (P : Program) (f : FuncId) : Prop where
  go : ∀ args w, (callFunc f args).run P w = .ok (.enter f args) w

theorem run_und {P : Program} {t : TypeId} {d : TypeDesc} (h : P.underlying t = some d) (w : World) : (underlying t).run P w = .ok d w := run_underlying h w

section
variable {P : Program} {E : World} {n : Nat} {env : En} {d : Option Tmp} {ty : TypeId} {ps : String} {af : Array Edge} {gd : Option (Nat × Bool)}

/-! ### 2. Values -/
theorem mv {x : Operand} {v : Value} (hx : ev env x = some v) : Val P n ⟨d, .move x, ty, ps, af, gd⟩ env v := fun a w ha => by
  simp [execOp, ha.eval hx]
theorem as_ {x : Operand} {v : Value} (hx : ev env x = some v) : Val P n ⟨d, .assign x, ty, ps, af, gd⟩ env v := fun a w ha => by
  simp [execOp, ha.eval hx]
theorem pickT {c x y : Operand} {b : Bool} {v : Value} (hc : ev env c = some (.bool b)) (hb : b = true) (hx : ev env x = some v) : Val P n ⟨d, .pick c x y, ty, ps, af, gd⟩ env v := fun a w ha => by
  subst hb; simp [execOp, ha.eval hc, ha.eval hx, asBool]
theorem pickF {c x y : Operand} {b : Bool} {v : Value} (hc : ev env c = some (.bool b)) (hb : b = false) (hy : ev env y = some v) : Val P n ⟨d, .pick c x y, ty, ps, af, gd⟩ env v := fun a w ha => by
  subst hb; simp [execOp, ha.eval hc, ha.eval hy, asBool]
theorem nc {x : Operand} {p : Addr} (hx : ev env x = some (.pointer (some p))) : Val P n ⟨d, .nilCheck x, ty, ps, af, gd⟩ env (.pointer (some p)) := fun a w ha => by
  simp [execOp, ha.eval hx]
theorem fa {s f off ft : Nat} [h : TFld P s f off ft] {x : Operand} {p : Addr} (hx : ev env x = some (.pointer (some p))) : Val P n ⟨d, .fieldAddr s x f, ty, ps, af, gd⟩ env (.pointer (some (p.add off))) := fun a w ha => by
  simp [execOp, ha.eval hx, h.addr]
theorem fld_und {s f off ft : Nat} (h : fldOf P s f = some (off, ft)) : ∃ fs x, P.underlying s = some (.struct fs) ∧ fs[f]? = some x ∧ x.offset = off ∧ x.type = ft := by
  unfold fldOf at h
  split at h
  · rename_i fs hu
    cases hf : fs[f]? with
    | none => rw [hf] at h; simp at h
    | some x => rw [hf] at h; simp at h; exact ⟨fs, x, hu, hf, h.1, h.2⟩
  · cases h
theorem fl {s f off ft : Nat} [h : TFld P s f off ft] [hc : TCell P ft] {x : Operand} {cs : Array Value} {v : Value} (hx : ev env x = some (.agg cs)) (hv : nth cs.toList off = some v) : Val P n ⟨d, .field s x f, ty, ps, af, gd⟩ env v := fun a w ha => by
  rw [← nth_eq, Array.getElem?_toList] at hv
  obtain ⟨fs, fx, h1, h2, rfl, rfl⟩ := fld_und h.fld
  simp [execOp, ha.eval hx, Instr.field, run_und h1, h2, asAgg, part, hc.agg, hv]
theorem flA {s f off ft sz : Nat} [h : TFld P s f off ft] [hc : TAgg P ft sz] {x : Operand} {cs cs' : Array Value} (hx : ev env x = some (.agg cs)) (hv : cs.extract off (off + sz) = cs') : Val P n ⟨d, .field s x f, ty, ps, af, gd⟩ env (.agg cs') := fun a w ha => by
  obtain ⟨fs, fx, h1, h2, rfl, rfl⟩ := fld_und h.fld
  simp [execOp, ha.eval hx, Instr.field, run_und h1, h2, asAgg, part, hc.agg, hc.size, hv]
theorem xt {x : Operand} {i : Nat} {vs : Array Value} {v : Value} (hx : ev env x = some (.tuple vs)) (hv : nth vs.toList i = some v) : Val P n ⟨d, .extract x i, ty, ps, af, gd⟩ env v := fun a w ha => by
  rw [← nth_eq, Array.getElem?_toList] at hv
  simp [execOp, ha.eval hx, Instr.extract, hv]
theorem not_ {x : Operand} {t : TypeId} {b : Bool} (hx : ev env x = some (.bool b)) : Val P n ⟨d, .unOp .not t x, ty, ps, af, gd⟩ env (.bool (!b)) := fun a w ha => by
  simp [execOp, ha.eval hx, Op.unary]
/-- Arithmetic on whole numbers of one kind. -/
def arI (op : BinOp) (k : IntKind) (a b : Int) : Option Value :=
  match op with
  | .add => some (.int k (k.wrap (a + b)))
  | .sub => some (.int k (k.wrap (a - b)))
  | .mul => some (.int k (k.wrap (a * b)))
  | .and => some (.int k (bits .and k a b))
  | .or => some (.int k (bits .or k a b))
  | .xor => some (.int k (bits .xor k a b))
  | .eql => some (.bool (a == b))
  | .neq => some (.bool (a != b))
  | .lss => some (.bool (decide (a < b)))
  | .leq => some (.bool (decide (a ≤ b)))
  | .gtr => some (.bool (decide (a > b)))
  | .geq => some (.bool (decide (a ≥ b)))
  | _ => none
theorem bi {op : BinOp} {t t' : TypeId} {x y : Operand} {k : IntKind} {i j : Int} {v : Value} (hx : ev env x = some (.int k i)) (hy : ev env y = some (.int k j)) (hv : arI op k i j = some v) : Val P n ⟨d, .binOp op t x y t', ty, ps, af, gd⟩ env v := fun a w ha => by
  have e : (execOp a.eval ⟨d, .binOp op t x y t', ty, ps, af, gd⟩) = (do eqGuard op t x y (.int k i) (.int k j); let r ← binOp op t (.int k i) (.int k j); pure (.value r) : Sem Next) := by
    simp [execOp, ha.eval hx, ha.eval hy]
  rw [e]
  cases op <;> simp [arI] at hv <;> subst hv <;> first | rfl | simp [eqGuard, binOp, Op.intArith, Op.intBits, Op.intCmp, bits]
/-- No wrap where none is needed. -/
theorem bi64 {op : BinOp} {t t' : TypeId} {x y : Operand} {i j r : Int} (hx : ev env x = some (.int .i64 i)) (hy : ev env y = some (.int .i64 j)) (hv : arI op .i64 i j = some (.int .i64 (IntKind.i64.wrap r))) (h0 : -9223372036854775808 ≤ r) (h1 : r ≤ 9223372036854775807) : Val P n ⟨d, .binOp op t x y t', ty, ps, af, gd⟩ env (.int .i64 r) := by
  have e : IntKind.i64.wrap r = r := by rw [IntKind.wrap_i64]; omega
  have := bi (P := P) (n := n) (d := d) (ty := ty) (ps := ps) (af := af) (gd := gd) (t := t) (t' := t') hx hy hv
  rwa [e] at this
theorem bquo {t t' : TypeId} {x y : Operand} {k : IntKind} {i j : Int} (hx : ev env x = some (.int k i)) (hy : ev env y = some (.int k j)) (hj : j ≠ 0) : Val P n ⟨d, .binOp .quo t x y t', ty, ps, af, gd⟩ env (.int k (k.wrap (i.tdiv j))) := fun a w ha => by
  have e : (execOp a.eval ⟨d, .binOp .quo t x y t', ty, ps, af, gd⟩) = (do eqGuard .quo t x y (.int k i) (.int k j); let r ← binOp .quo t (.int k i) (.int k j); pure (.value r) : Sem Next) := by
    simp [execOp, ha.eval hx, ha.eval hy]
  rw [e]; simp [eqGuard, binOp, Op.intDiv, hj]
theorem brem {t t' : TypeId} {x y : Operand} {k : IntKind} {i j : Int} (hx : ev env x = some (.int k i)) (hy : ev env y = some (.int k j)) (hj : j ≠ 0) : Val P n ⟨d, .binOp .rem t x y t', ty, ps, af, gd⟩ env (.int k (i.tmod j)) := fun a w ha => by
  have e : (execOp a.eval ⟨d, .binOp .rem t x y t', ty, ps, af, gd⟩) = (do eqGuard .rem t x y (.int k i) (.int k j); let r ← binOp .rem t (.int k i) (.int k j); pure (.value r) : Sem Next) := by
    simp [execOp, ha.eval hx, ha.eval hy]
  rw [e]; simp [eqGuard, binOp, Op.intDiv, hj]
theorem bshl {t t' : TypeId} {x y : Operand} {k k' : IntKind} {i j : Int} (hx : ev env x = some (.int k i)) (hy : ev env y = some (.int k' j)) (hj : 0 ≤ j) : Val P n ⟨d, .binOp .shl t x y t', ty, ps, af, gd⟩ env (.int k (k.wrap (i * 2 ^ (min j.toNat k.bits)))) := fun a w ha => by
  have e : (execOp a.eval ⟨d, .binOp .shl t x y t', ty, ps, af, gd⟩) = (do eqGuard .shl t x y (.int k i) (.int k' j); let r ← binOp .shl t (.int k i) (.int k' j); pure (.value r) : Sem Next) := by
    simp [execOp, ha.eval hx, ha.eval hy]
  have hj' : ¬ j < 0 := by omega
  rw [e]; simp [eqGuard, binOp, Op.shift, hj']
theorem bshr {t t' : TypeId} {x y : Operand} {k k' : IntKind} {i j : Int} (hx : ev env x = some (.int k i)) (hy : ev env y = some (.int k' j)) (hj : 0 ≤ j) : Val P n ⟨d, .binOp .shr t x y t', ty, ps, af, gd⟩ env (.int k (i.fdiv (2 ^ (min j.toNat k.bits)))) := fun a w ha => by
  have e : (execOp a.eval ⟨d, .binOp .shr t x y t', ty, ps, af, gd⟩) = (do eqGuard .shr t x y (.int k i) (.int k' j); let r ← binOp .shr t (.int k i) (.int k' j); pure (.value r) : Sem Next) := by
    simp [execOp, ha.eval hx, ha.eval hy]
  have hj' : ¬ j < 0 := by omega
  rw [e]; simp [eqGuard, binOp, Op.shift, hj']
/-- Strings. -/
def arS (op : BinOp) (a b : ByteArray) : Option Value :=
  match op with
  | .eql => some (.bool (a.toList == b.toList))
  | .neq => some (.bool (!(a.toList == b.toList)))
  | .lss => some (.bool (Op.bytesLess a.toList b.toList))
  | _ => none
theorem bs {op : BinOp} {t t' : TypeId} {x y : Operand} {i j : ByteArray} {v : Value} (hx : ev env x = some (.string i)) (hy : ev env y = some (.string j)) (hv : arS op i j = some v) : Val P n ⟨d, .binOp op t x y t', ty, ps, af, gd⟩ env v := fun a w ha => by
  have e : (execOp a.eval ⟨d, .binOp op t x y t', ty, ps, af, gd⟩) = (do eqGuard op t x y (.string i) (.string j); let r ← binOp op t (.string i) (.string j); pure (.value r) : Sem Next) := by
    simp [execOp, ha.eval hx, ha.eval hy]
  rw [e]
  cases op <;> simp [arS] at hv <;> subst hv <;> simp [eqGuard, binOp, Op.stringOp]
theorem bcat {t t' : TypeId} {x y : Operand} {i j : ByteArray} (hx : ev env x = some (.string i)) (hy : ev env y = some (.string j)) (hs : i.size + j.size ≤ 9223372036854775807) : Val P n ⟨d, .binOp .add t x y t', ty, ps, af, gd⟩ env (.string (i ++ j)) := fun a w ha => by
  have e : (execOp a.eval ⟨d, .binOp .add t x y t', ty, ps, af, gd⟩) = (do eqGuard .add t x y (.string i) (.string j); let r ← binOp .add t (.string i) (.string j); pure (.value r) : Sem Next) := by
    simp [execOp, ha.eval hx, ha.eval hy]
  have hs' : ¬ (((i.size + j.size : Nat) : Int) > IntKind.i64.max) := by
    have : IntKind.i64.max = 9223372036854775807 := by decide
    omega
  rw [e]; simp only [eqGuard, binOp, Op.stringOp]
  rw [if_neg hs']
  simp
theorem eqIn_pn {t e : TypeId} (ht : P.underlying t = some (.pointer e)) (p : Option Addr) (k : Nat) (w : World) : (Op.equalIn (k + 1) t (.pointer p) (.pointer none)).run P w = .ok p.isNone w := by
  cases p <;> simp [Op.equalIn, run_und ht]
theorem eqIn_bb {t : TypeId} (ht : P.underlying t = some .bool) (p q : Bool) (k : Nat) (w : World) : (Op.equalIn (k + 1) t (.bool p) (.bool q)).run P w = .ok (p == q) w := by
  simp [Op.equalIn, run_und ht]
theorem run_eq_of {t : TypeId} {x y : Value} {b : Bool} {w : World} (h : ∀ k, (Op.equalIn (k + 1) t x y).run P w = .ok b w) : (Op.equal t x y).run P w = .ok b w := h 9999
/-- A pointer against nil. -/
theorem pn_eq {t t' e : TypeId} [ht : TPtr P t e] {x y : Operand} {p : Option Addr} (hx : ev env x = some (.pointer p)) (hy : ev env y = some (.pointer none)) : Val P n ⟨d, .binOp .eql t x y t', ty, ps, af, gd⟩ env (.bool p.isNone) := fun a w ha => by
  have e : (execOp a.eval ⟨d, .binOp .eql t x y t', ty, ps, af, gd⟩) = (do eqGuard .eql t x y (.pointer p) (.pointer none); let r ← binOp .eql t (.pointer p) (.pointer none); pure (.value r) : Sem Next) := by
    simp [execOp, ha.eval hx, ha.eval hy]
  have e2 := run_eq_of (P := P) (w := w) fun k => eqIn_pn ht.und p k w
  rw [e]
  simp only [eqGuard, binOp]
  simp [e2]
theorem pn_ne {t t' e : TypeId} [ht : TPtr P t e] {x y : Operand} {p : Option Addr} (hx : ev env x = some (.pointer p)) (hy : ev env y = some (.pointer none)) : Val P n ⟨d, .binOp .neq t x y t', ty, ps, af, gd⟩ env (.bool p.isSome) := fun a w ha => by
  have e : (execOp a.eval ⟨d, .binOp .neq t x y t', ty, ps, af, gd⟩) = (do eqGuard .neq t x y (.pointer p) (.pointer none); let r ← binOp .neq t (.pointer p) (.pointer none); pure (.value r) : Sem Next) := by
    simp [execOp, ha.eval hx, ha.eval hy]
  have e2 := run_eq_of (P := P) (w := w) fun k => eqIn_pn ht.und p k w
  rw [e]
  simp only [eqGuard, binOp]
  simp [e2]
/-- Bools. -/
theorem bb_eq {t t' : TypeId} [ht : TBool P t] {x y : Operand} {p q : Bool} (hx : ev env x = some (.bool p)) (hy : ev env y = some (.bool q)) : Val P n ⟨d, .binOp .eql t x y t', ty, ps, af, gd⟩ env (.bool (p == q)) := fun a w ha => by
  have e : (execOp a.eval ⟨d, .binOp .eql t x y t', ty, ps, af, gd⟩) = (do eqGuard .eql t x y (.bool p) (.bool q); let r ← binOp .eql t (.bool p) (.bool q); pure (.value r) : Sem Next) := by
    simp [execOp, ha.eval hx, ha.eval hy]
  have e2 := run_eq_of (P := P) (w := w) fun k => eqIn_bb ht.und p q k w
  rw [e]
  simp only [eqGuard, binOp]
  simp [e2]
theorem bb_ne {t t' : TypeId} [ht : TBool P t] {x y : Operand} {p q : Bool} (hx : ev env x = some (.bool p)) (hy : ev env y = some (.bool q)) : Val P n ⟨d, .binOp .neq t x y t', ty, ps, af, gd⟩ env (.bool (!(p == q))) := fun a w ha => by
  have e : (execOp a.eval ⟨d, .binOp .neq t x y t', ty, ps, af, gd⟩) = (do eqGuard .neq t x y (.bool p) (.bool q); let r ← binOp .neq t (.bool p) (.bool q); pure (.value r) : Sem Next) := by
    simp [execOp, ha.eval hx, ha.eval hy]
  have e2 := run_eq_of (P := P) (w := w) fun k => eqIn_bb ht.und p q k w
  rw [e]
  simp only [eqGuard, binOp]
  simp [e2]
theorem cvI {t t' : TypeId} {k k' : IntKind} [hs : TInt P t k'] [ht : TInt P t' k] {x : Operand} {j : IntKind} {i : Int} (hx : ev env x = some (.int j i)) : Val P n ⟨d, .convert t t' x, ty, ps, af, gd⟩ env (.int k (k.wrap i)) := fun a w ha => by
  simp [execOp, ha.eval hx, convert, run_und hs.und, run_und ht.und, Conv.intToInt]
theorem cvS {t t' : TypeId} [hs : TStr P t] [ht : TStr P t'] {x : Operand} {s : ByteArray} (hx : ev env x = some (.string s)) : Val P n ⟨d, .convert t t' x, ty, ps, af, gd⟩ env (.string s) := fun a w ha => by
  simp [execOp, ha.eval hx, convert, run_und hs.und, run_und ht.und]
theorem lenS {t : TypeId} [hs : TStr P t] {x : Operand} {s : ByteArray} (hx : ev env x = some (.string s)) : Val P n ⟨d, .call { callee := .builtin .len, args := #[x], argTypes := #[t] }, ty, ps, af, gd⟩ env (.int .i64 s.size) := fun a w ha => by
  simp [execOp, resolve, invoke, builtin, ha.eval hx, Builtin.len_, run_und hs.und, goInt]
theorem lenL {t e : TypeId} [hs : TSlc P t e] {x : Operand} {p : Option Addr} {l c : Nat} (hx : ev env x = some (.slice p l c)) : Val P n ⟨d, .call { callee := .builtin .len, args := #[x], argTypes := #[t] }, ty, ps, af, gd⟩ env (.int .i64 l) := fun a w ha => by
  simp [execOp, resolve, invoke, builtin, ha.eval hx, Builtin.len_, run_und hs.und, goInt]
theorem min2 {ts : Array TypeId} {x y : Operand} {k : IntKind} {i j : Int} (hx : ev env x = some (.int k i)) (hy : ev env y = some (.int k j)) : Val P n ⟨d, .call { callee := .builtin .min, args := #[x, y], argTypes := ts }, ty, ps, af, gd⟩ env (.int k (min i j)) := fun a w ha => by
  have e : (if j < i then j else i) = min i j := by
    by_cases h : j < i
    · rw [if_pos h]; omega
    · rw [if_neg h]; omega
  simp [execOp, resolve, invoke, builtin, ha.eval hx, ha.eval hy, Builtin.min_, Builtin.min2, e]
theorem max2 {ts : Array TypeId} {x y : Operand} {k : IntKind} {i j : Int} (hx : ev env x = some (.int k i)) (hy : ev env y = some (.int k j)) : Val P n ⟨d, .call { callee := .builtin .max, args := #[x, y], argTypes := ts }, ty, ps, af, gd⟩ env (.int k (max i j)) := fun a w ha => by
  have e : (if j > i then j else i) = max i j := by
    by_cases h : j > i
    · rw [if_pos h]; omega
    · rw [if_neg h]; omega
  simp [execOp, resolve, invoke, builtin, ha.eval hx, ha.eval hy, Builtin.max_, Builtin.max2, e]
/-- A string's part. -/
theorem slS {t : TypeId} [hs : TStr P t] {x : Operand} {s : ByteArray} {lo hi : Option Operand} (i j : Int) (hx : ev env x = some (.string s))
    (hlo : (match lo with | none => i = 0 | some o => ∃ k, ev env o = some (.int k i))) (hhi : (match hi with | none => j = s.size | some o => ∃ k, ev env o = some (.int k j)))
    (h0 : 0 ≤ i) (h1 : i ≤ j) (h2 : j ≤ s.size) : Val P n ⟨d, .slice t x lo hi none, ty, ps, af, gd⟩ env (.string (s.extract i.toNat j.toNat)) := fun a w ha => by
  have hj : 0 ≤ j ∧ j ≤ (s.size : Int) := ⟨by omega, h2⟩
  have hi' : 0 ≤ i ∧ i ≤ ((j.toNat : Nat) : Int) := ⟨h0, by omega⟩
  cases lo with
  | none =>
    cases hi with
    | none => subst hlo hhi; simp [execOp, ha.eval hx, Instr.sliceAt, Instr.slice, run_und hs.und, Instr.sliceBounds]
    | some o =>
      obtain ⟨k, hk⟩ := hhi
      subst hlo
      simp [execOp, ha.eval hx, ha.eval hk, Instr.sliceAt, Instr.slice, run_und hs.und, Instr.sliceBounds, Instr.sliceBound, asIntOf, hj]
  | some l =>
    obtain ⟨k, hk⟩ := hlo
    cases hi with
    | none =>
      subst hhi
      have hi2 : 0 ≤ i ∧ i ≤ (s.size : Int) := ⟨h0, by omega⟩
      simp [execOp, ha.eval hx, ha.eval hk, Instr.sliceAt, Instr.slice, run_und hs.und, Instr.sliceBounds, Instr.sliceBound, asIntOf, hi2]
    | some o =>
      obtain ⟨k', hk'⟩ := hhi
      simp [execOp, ha.eval hx, ha.eval hk, ha.eval hk', Instr.sliceAt, Instr.slice, run_und hs.und, Instr.sliceBounds, Instr.sliceBound, asIntOf, hj]
      intro h; have := h h0; omega
/-- A byte of a string. -/
def byteAt (s : ByteArray) (i : Int) : Int := if h : i.toNat < s.size then ((s[i.toNat]'h).toNat : Int) else 0
theorem ixS {t : TypeId} [hs : TStr P t] {x y : Operand} {s : ByteArray} {k : IntKind} {i : Int} (hx : ev env x = some (.string s)) (hy : ev env y = some (.int k i)) (h0 : 0 ≤ i) (h1 : i < s.size) : Val P n ⟨d, .index t x y, ty, ps, af, gd⟩ env (.int .u8 (byteAt s i)) := fun a w ha => by
  have hlt : i.toNat < s.size := by omega
  have e : s[i.toNat]? = some (s[i.toNat]'hlt) := by simp [hlt]
  simp [execOp, ha.eval hx, ha.eval hy, Instr.index, asIntOf, run_und hs.und, h0, e, byteAt, hlt]
/-- The address of a slice's element. -/
theorem ia {t e : TypeId} {sz : Nat} [hs : TSlc P t e] [hz : TSize P e sz] {x y : Operand} {p : Addr} {l c : Nat} {k : IntKind} {i : Int} (hx : ev env x = some (.slice (some p) l c)) (hy : ev env y = some (.int k i)) (h0 : 0 ≤ i) (h1 : i < l) : Val P n ⟨d, .indexAddr t x y, ty, ps, af, gd⟩ env (.pointer (some (p.add (i.toNat * sz)))) := fun a w ha => by
  simp [execOp, ha.eval hx, ha.eval hy, Instr.indexAt, asIntOf, run_und hs.und, h0, h1, hz.size]
/-- A part of a slice (no capacity named). -/
theorem slL {t e : TypeId} {sz : Nat} [hs : TSlc P t e] [hz : TSize P e sz] {x : Operand} {p : Option Addr} {l c : Nat} {lo hi : Option Operand} (i j : Int) (hx : ev env x = some (.slice p l c))
    (hlo : (match lo with | none => i = 0 | some o => ∃ k, ev env o = some (.int k i))) (hhi : (match hi with | none => j = l | some o => ∃ k, ev env o = some (.int k j)))
    (h0 : 0 ≤ i) (h1 : i ≤ j) (h2 : j ≤ c) : Val P n ⟨d, .slice t x lo hi none, ty, ps, af, gd⟩ env (.slice (if c = i.toNat then p else p.map (·.add (i.toNat * sz))) (j.toNat - i.toNat) (c - i.toNat)) := fun a w ha => by
  have hj : 0 ≤ j ∧ j ≤ (c : Int) := ⟨by omega, h2⟩
  have hi' : 0 ≤ i ∧ i ≤ ((j.toNat : Nat) : Int) := ⟨h0, by omega⟩
  cases lo with
  | none =>
    cases hi with
    | none => subst hlo hhi; simp [execOp, ha.eval hx, Instr.sliceAt, Instr.slice, run_und hs.und, Instr.sliceBounds, hz.size]
    | some o =>
      obtain ⟨k, hk⟩ := hhi
      subst hlo
      simp [execOp, ha.eval hx, ha.eval hk, Instr.sliceAt, Instr.slice, run_und hs.und, Instr.sliceBounds, Instr.sliceBound, asIntOf, hj, hz.size]
  | some o =>
    obtain ⟨k, hk⟩ := hlo
    cases hi with
    | none =>
      subst hhi
      have hi2 : 0 ≤ i ∧ i ≤ (l : Int) := ⟨h0, by omega⟩
      simp [execOp, ha.eval hx, ha.eval hk, Instr.sliceAt, Instr.slice, run_und hs.und, Instr.sliceBounds, Instr.sliceBound, asIntOf, hi2, hz.size]
    | some o' =>
      obtain ⟨k', hk'⟩ := hhi
      simp [execOp, ha.eval hx, ha.eval hk, ha.eval hk', Instr.sliceAt, Instr.slice, run_und hs.und, Instr.sliceBounds, Instr.sliceBound, asIntOf, hj]
      first | (intro h; have := h h0; omega) | (rw [if_pos (show 0 ≤ i ∧ i ≤ max j 0 from ⟨h0, by omega⟩)]; simp [hz.size])
theorem mf {fn : Fn} {first cap : Array Operand} {f' c' : Array Value} (h1 : ∀ a, EnvOk n env a → first.map a.eval = f') (h2 : ∀ a, EnvOk n env a → cap.map a.eval = c') : Val P n ⟨d, .makeFunc fn first cap, ty, ps, af, gd⟩ env (.func fn f' c') := fun a w ha => by
  simp [execOp, Instr.makeFunc, h1 a ha, h2 a ha]
/-- Operands, all at once. -/
def evs (env : En) : List Operand → Option (List Value)
  | [] => some []
  | x :: l => match ev env x, evs env l with
    | some v, some vs => some (v :: vs)
    | _, _ => none
theorem evs_ok : ∀ {l : List Operand} {vs : List Value} {a : Act}, EnvOk n env a → evs env l = some vs → l.map a.eval = vs
  | [], _, _, _, h => by simp [evs] at h; subst h; rfl
  | x :: l, vs, a, ha, h => by
    simp only [evs] at h
    cases hx : ev env x with
    | none => rw [hx] at h; simp at h
    | some v =>
      rw [hx] at h
      cases hl : evs env l with
      | none => rw [hl] at h; simp at h
      | some us =>
        rw [hl] at h
        simp at h
        subst h
        simp [ha.eval hx, evs_ok ha hl]
/-- A struct's or an array's value. -/
def evp (env : En) : List (Nat × Operand) → Option (List (Nat × Value))
  | [] => some []
  | (i, x) :: l => match ev env x, evp env l with
    | some v, some vs => some ((i, v) :: vs)
    | _, _ => none
theorem evp_ok : ∀ {l : List (Nat × Operand)} {vs : List (Nat × Value)} {a : Act}, EnvOk n env a → evp env l = some vs → l.map (fun q => (q.1, a.eval q.2)) = vs
  | [], _, _, _, h => by simp [evp] at h; subst h; rfl
  | (i, x) :: l, vs, a, ha, h => by
    simp only [evp] at h
    cases hx : ev env x with
    | none => rw [hx] at h; simp at h
    | some v =>
      rw [hx] at h
      cases hl : evp env l with
      | none => rw [hl] at h; simp at h
      | some us =>
        rw [hl] at h
        simp at h
        subst h
        simp [ha.eval hx, evp_ok ha hl]
theorem bd {t : TypeId} {parts : List (Nat × Operand)} {vs : List (Nat × Value)} {v : Value} (hp : evp env parts = some vs) (hr : ∀ w, (Instr.build t vs.toArray).run P w = .ok v w) : Val P n ⟨d, .build t parts.toArray, ty, ps, af, gd⟩ env v := fun a w ha => by
  have := evp_ok ha hp
  simp [execOp, this, hr]

/-! ### 3. Reading -/
theorem add_pl (g i j : Nat) : (⟨g, i, none⟩ : Addr).add j = ⟨g, i + j, none⟩ := by unfold Addr.add; split <;> simp_all
theorem cell_of {w : World} {g : Nat} {cs : Array Value} {t : TypeId} {fr : Nat × Nat} (h : w.heap[g]? = some (.cells cs t fr)) (i : Nat) : w.cell? ⟨g, i, none⟩ = cs[i]? := by simp [World.cell?, h]
theorem run_load_cell {w : World} {g i : Nat} {v : Value} (h : w.cell? ⟨g, i, none⟩ = some v) : (load ⟨g, i, none⟩).run P w = .ok v w := by simp [load, Sem.run, h]
/-- Out of a block that is held: one cell. -/
theorem ld {t : TypeId} [hc : TCell P t] {x : Operand} {g i : Nat} {cs : Array Value} {e : TypeId} {fr : Nat × Nat} {v : Value} (hx : ev env x = some (.pointer (some ⟨g, i, none⟩))) (hv : cs[i]? = some v) :
    ValS P E n ⟨d, .load t x, ty, ps, af, gd⟩ env [blk g (.cells cs e fr)] v := fun a w ha hs => by
  have hg := cell_of hs.blk i
  rw [hv] at hg
  simp [execOp, ha.eval hx, Instr.loadAt, Instr.sureAddr, loadVar, hc.agg, hg]
theorem ldro {t : TypeId} [hc : TCell P t] {x : Operand} {g i : Nat} {cs : Array Value} {e : TypeId} {fr : Nat × Nat} {v : Value} (hx : ev env x = some (.pointer (some ⟨g, i, none⟩))) (hv : cs[i]? = some v) :
    ValS P E n ⟨d, .load t x, ty, ps, af, gd⟩ env [ro g (.cells cs e fr)] v := fun a w ha hs => by
  have hg := cell_of hs.ro i
  rw [hv] at hg
  simp [execOp, ha.eval hx, Instr.loadAt, Instr.sureAddr, loadVar, hc.agg, hg]
/-- A whole struct. -/
theorem ldA {t : TypeId} {k : Nat} [hc : TAgg P t k] {x : Operand} {g i : Nat} {cs : Array Value} {e : TypeId} {fr : Nat × Nat} {l : List Value} (hx : ev env x = some (.pointer (some ⟨g, i, none⟩))) (hl : l.length = k) (hv : ∀ j v, l[j]? = some v → cs[i + j]? = some v) :
    ValS P E n ⟨d, .load t x, ty, ps, af, gd⟩ env [blk g (.cells cs e fr)] (.agg l.toArray) := fun a w ha hs => by
  have hg := fun j => cell_of hs.blk (i + j)
  have h2 := run_loadCells_list (P := P) (w := w) ⟨g, i, none⟩ l (fun j v hj => by rw [add_pl, hg j]; exact hv j v hj)
  rw [hl] at h2
  simp [execOp, ha.eval hx, Instr.loadAt, Instr.sureAddr, loadVar, hc.agg, hc.size, h2]
theorem ldAro {t : TypeId} {k : Nat} [hc : TAgg P t k] {x : Operand} {g i : Nat} {cs : Array Value} {e : TypeId} {fr : Nat × Nat} {l : List Value} (hx : ev env x = some (.pointer (some ⟨g, i, none⟩))) (hl : l.length = k) (hv : ∀ j v, l[j]? = some v → cs[i + j]? = some v) :
    ValS P E n ⟨d, .load t x, ty, ps, af, gd⟩ env [ro g (.cells cs e fr)] (.agg l.toArray) := fun a w ha hs => by
  have hg := fun j => cell_of hs.ro (i + j)
  have h2 := run_loadCells_list (P := P) (w := w) ⟨g, i, none⟩ l (fun j v hj => by rw [add_pl, hg j]; exact hv j v hj)
  rw [hl] at h2
  simp [execOp, ha.eval hx, Instr.loadAt, Instr.sureAddr, loadVar, hc.agg, hc.size, h2]

/-! ### 4. Writing -/
/-- A row of cells stored into a block from place i on. -/
def over (cs : Array Value) (i : Nat) (vs : List Value) : Array Value := vs.zipIdx.foldl (fun c (v, j) => c.setIfInBounds (i + j) v) cs
def overL : Array Value → Nat → List Value → Array Value
  | cs, _, [] => cs
  | cs, i, v :: vs => overL (cs.setIfInBounds i v) (i + 1) vs
theorem overL_size : ∀ (vs : List Value) (cs : Array Value) (i : Nat), (overL cs i vs).size = cs.size
  | [], _, _ => rfl
  | v :: vs, cs, i => by simp [overL, overL_size vs]
theorem store_blk {w : World} {L : List SA} {g i : Nat} {cs : Array Value} {e : TypeId} {v : Value} (hs : Sat E (blk g (.cells cs e (0, 0)) :: L) w) (hi : i < cs.size) (hv : v.oneCell' = true) :
    ∃ w', (store ⟨g, i, none⟩ v).run P w = .ok () w' ∧ Sat E (blk g (.cells (cs.setIfInBounds i v) e (0, 0)) :: L) w' := by
  have hg := hs.blk
  have hc : w.cell? ⟨g, i, none⟩ = some cs[i] := by rw [cell_of hg]; exact Array.getElem?_eq_getElem hi
  have hz : w.frozen? ⟨g, i, none⟩ = false := by simp [World.frozen?, hg]
  refine ⟨w.setCell ⟨g, i, none⟩ v, ?_, ?_⟩
  · rw [run_store P w _ v _ hv, hc]; simp [hz]
  · refine hs.put _ _ rfl rfl rfl ?_ ?_
    · simp [World.setCell, Array.getElem?_modify, hg]
    · intro j hj x hx
      simp only [World.setCell, Array.getElem?_modify]
      rw [if_neg (fun e => hj e.symm)]
      exact hx
theorem storeCells_blk {L : List SA} {g : Nat} {e : TypeId} {o : Nat} : ∀ (vs : List Value) (i : Nat) (cs : Array Value) (w : World), Sat E (blk g (.cells cs e (0, 0)) :: L) w → o + i + vs.length ≤ cs.size → (∀ v ∈ vs, v.oneCell' = true) →
    ∃ w', (storeCells ⟨g, o, none⟩ vs i).run P w = .ok () w' ∧ Sat E (blk g (.cells (overL cs (o + i) vs) e (0, 0)) :: L) w'
  | [], i, cs, w, hs, _, _ => ⟨w, by simp [storeCells], hs⟩
  | v :: vs, i, cs, w, hs, hl, h1 => by
    simp only [List.length_cons] at hl
    obtain ⟨w1, hr, hs1⟩ := store_blk (P := P) (i := o + i) hs (by omega) (h1 v (by simp))
    obtain ⟨w2, hr2, hs2⟩ := storeCells_blk (o := o) vs (i + 1) _ w1 hs1 (by simp; omega) (fun u hu => h1 u (by simp [hu]))
    refine ⟨w2, ?_, ?_⟩
    · simp [storeCells, add_pl, hr, hr2]
    · rw [show o + (i + 1) = o + i + 1 from by omega] at hs2
      exact hs2
/-- A store of a value into a block that is held. -/
theorem st {t : TypeId} {sz : Nat} [hz : TSize P t sz] {x y : Operand} {g i : Nat} {cs : Array Value} {e : TypeId} {v : Value} {L M : List SA} (hx : ev env x = some (.pointer (some ⟨g, i, none⟩))) (hy : ev env y = some v)
    (hp : Pl (blk g (.cells cs e (0, 0))) L M) (hsz : v.cells.size = sz) (hi : i + sz ≤ cs.size) (h1 : v.cells.all (·.oneCell') = true) :
    Does P E n ⟨d, .store t x y, ty, ps, af, gd⟩ env L (fun u L' => u = undef ∧ L' = blk g (.cells (overL cs i v.cells.toList) e (0, 0)) :: M) := does_skip fun a w ha hs => by
  obtain ⟨w', hr, hs'⟩ := storeCells_blk (P := P) (o := i) v.cells.toList 0 cs w (hs.pl hp) (by have h3 : v.cells.toList.length = sz := (by rw [Array.length_toList]; exact hsz); omega) (fun u hu => by
    have := Array.all_eq_true_iff_forall_mem.1 h1 u (by simpa using hu); exact this)
  refine ⟨_, w', ?_, ⟨rfl, rfl⟩, hs'⟩
  simp [execOp, ha.eval hx, ha.eval hy, Instr.storeAt, Instr.sureAddr, storeVar, hz.size, hsz, hr]
/-- A new variable of a value. -/
theorem bx {t : TypeId} {x : Operand} {v : Value} {L : List SA} (hx : ev env x = some v) :
    Does P E n ⟨d, .box t x, ty, ps, af, gd⟩ env L (fun u L' => ∃ g, u = .pointer (some ⟨g, 0, none⟩) ∧ L' = blk g (.cells v.cells t (0, 0)) :: L) := does_value fun a w ha hs => by
  refine ⟨_, _, { w with heap := w.heap.push (.cells v.cells t) }, ?_, ⟨w.heap.size, rfl, rfl⟩, hs.new _ _ rfl rfl rfl rfl⟩
  simp [execOp, ha.eval hx, Instr.box, newVar, newRow, newObj, Sem.run]
theorem al {t : TypeId} {z : Value} [hz : TZero P t z] {L : List SA} :
    Does P E n ⟨d, .alloc t, ty, ps, af, gd⟩ env L (fun u L' => ∃ g, u = .pointer (some ⟨g, 0, none⟩) ∧ L' = blk g (.cells z.cells t (0, 0)) :: L) := does_value fun a w ha hs => by
  refine ⟨_, _, { w with heap := w.heap.push (.cells z.cells t) }, ?_, ⟨w.heap.size, rfl, rfl⟩, hs.new _ _ rfl rfl rfl rfl⟩
  simp [execOp, Instr.alloc, hz.zero, newVar, newRow, newObj, Sem.run]

/-! ### 5. Calls -/
/-- A function's contract. -/
def Ctr (P : Program) (f : FuncId) (args : List Value) (pre : List SA) (Post : Value → List SA → Prop) : Prop :=
  ∀ (E w : World) (R : SA), Sat E (pre ++ [R]) w → Calls P f args.toArray w (fun e w' => ∃ v L', e = .returned v ∧ Post v L' ∧ Sat E (L' ++ [R]) w')
theorem Calls.mono' {f : FuncId} {args : Array Value} {w : World} {R R' : Ending → World → Prop} (h : Calls P f args w R) (k : ∀ e w, R e w → R' e w) : Calls P f args w R' := fun cs => by
  obtain ⟨e, w', fr, h1, h2⟩ := h cs
  exact ⟨e, w', fr, k _ _ h1, h2⟩
theorem rot {w : World} {L : List SA} {A : SA} (h : Sat E (A :: L) w) : Sat E (L ++ [A]) w := h.imp fun s k hk => by
  obtain ⟨x, y, dd, rfl, a, r⟩ := hk
  rw [join_comm dd]
  exact stars_append.2 ⟨y, x, dd.symm, rfl, r, x, fun _ => none, fun _ => .inr rfl, by funext i; simp [join], a, trivial⟩
theorem app_comm {w : World} {L M : List SA} (h : Sat E (L ++ M) w) : Sat E (M ++ L) w := h.imp fun s k hk => by
  obtain ⟨x, y, dd, rfl, a, r⟩ := stars_append.1 hk
  rw [join_comm dd]
  exact stars_append.2 ⟨y, x, dd.symm, rfl, r, a⟩
theorem to_frame {w : World} {L F : List SA} (h : Sat E (L ++ F) w) : Sat E (L ++ [SL.all F]) w := rot (Sat.toAll (app_comm h))
theorem of_frame {w : World} {L F : List SA} (h : Sat E (L ++ [SL.all F]) w) : Sat E (L ++ F) w := app_comm (Sat.all (app_comm h))
theorem call_go {f : FuncId} {args : List Value} {pre : List SA} {Post : Value → List SA → Prop} (hsp : Ctr P f args pre Post) {o : Oper} {L F : List SA} (hc : Cut L pre F)
    (hr : ∀ a w, EnvOk n env a → (execOp a.eval o).run P w = .ok (.enter f args.toArray) w) : Does P E n o env L (fun v L' => ∃ L1, Post v L1 ∧ L' = L1 ++ F) := by
  intro a w ha hs next Q hk
  unfold Oper.wp
  rw [hr a w ha, Oper.upon_enter]
  refine Calls.mono' (hsp E w (SL.all F) (to_frame (hs.cut hc))) fun e w' ⟨v, L', he, hP, hs'⟩ => ?_
  subst he
  exact hk v _ w' ⟨L', hP, rfl⟩ (of_frame hs')
theorem ca {f : FuncId} [hf : TFn P f] {as : List Operand} {ts : Array TypeId} {args : List Value} {pre : List SA} {Post : Value → List SA → Prop} {L F : List SA} (hsp : Ctr P f args pre Post)
    (hargs : evs env as = some args) (hc : Cut L pre F) : Does P E n ⟨d, .call { callee := .value (.func f), args := as.toArray, argTypes := ts }, ty, ps, af, gd⟩ env L (fun v L' => ∃ L1, Post v L1 ∧ L' = L1 ++ F) :=
  call_go hsp hc fun a w ha => by
    have := evs_ok ha hargs
    simp [execOp, resolve, Deferred.ofValue, invoke, Act.eval, hf.go]
    simpa [Act.eval] using this
/-- A call through a function value. -/
theorem cf {f : FuncId} [hf : TFn P f] {x : Operand} {cap : List Value} {as : List Operand} {ts : Array TypeId} {args : List Value} {pre : List SA} {Post : Value → List SA → Prop} {L F : List SA} (hx : ev env x = some (.func (.func f) #[] cap.toArray)) (hsp : Ctr P f (args ++ cap) pre Post)
    (hargs : evs env as = some args) (hc : Cut L pre F) : Does P E n ⟨d, .call { callee := .value x, args := as.toArray, argTypes := ts }, ty, ps, af, gd⟩ env L (fun v L' => ∃ L1, Post v L1 ∧ L' = L1 ++ F) :=
  call_go hsp hc fun a w ha => by
    have := evs_ok ha hargs
    simp [execOp, resolve, ha.eval hx, Deferred.ofValue, invoke, hf.go, this]

/-! ### Steps of a region -/
section
variable {ops : Array Oper} {Q : Exit → Act → World → Prop} {r : Rs} {L M : List SA} {d : Nat} {n : Nat} {gd : Option (Nat × Bool)}
/-- A cell of a block that is held. -/
theorem ld_ {t : TypeId} [hc : TCell P t] {x : Operand} {g i : Nat} {cs : Array Value} {e : TypeId} {fr : Nat × Nat} {v : Value} (hx : ev env x = some (.pointer (some ⟨g, i, none⟩))) (hp : Pl (blk g (.cells cs e fr)) (vis r L) M) (hv : nth cs.toList i = some v)
    (hd : Nat.blt d n = true) (hok : okB ops 1 r = true) (k : WN P E n ops Q r ((d, v) :: env) L) : WB P E n ops Q ⟨some d, .load t x, ty, ps, af, gd⟩ true r env L := by
  rw [← nth_eq, Array.getElem?_toList] at hv
  exact s_ (ld hx hv) (.cons hp .nil) hd hok k
theorem ldro_ {t : TypeId} [hc : TCell P t] {x : Operand} {g i : Nat} {cs : Array Value} {e : TypeId} {fr : Nat × Nat} {v : Value} (hx : ev env x = some (.pointer (some ⟨g, i, none⟩))) (hp : Pl (ro g (.cells cs e fr)) (vis r L) M) (hv : nth cs.toList i = some v)
    (hd : Nat.blt d n = true) (hok : okB ops 1 r = true) (k : WN P E n ops Q r ((d, v) :: env) L) : WB P E n ops Q ⟨some d, .load t x, ty, ps, af, gd⟩ true r env L := by
  rw [← nth_eq, Array.getElem?_toList] at hv
  exact s_ (ldro hx hv) (.cons hp .nil) hd hok k
theorem ld2_ {t : TypeId} [hc : TCell P t] {x : Operand} {g i : Nat} {cs : Array Value} {e : TypeId} {fr : Nat × Nat} {v : Value} (hx : ev env x = some (.pointer (some ⟨g, i, none⟩))) (hp : Pl (blk g (.cells cs e fr)) L M) (hv : nth cs.toList i = some v)
    (hd : Nat.blt d n = true) (hok : okB ops 2 r = true) (hk : kept r L) (k : WN P E n ops Q (adv r) ((d, v) :: env) L) : WB P E n ops Q ⟨some d, .load t x, ty, ps, af, gd⟩ true r env L := by
  rw [← nth_eq, Array.getElem?_toList] at hv
  exact s2_ (ld hx hv) (.cons hp .nil) hd hok hk k
/-- A whole struct out of a block that holds it alone. -/
theorem ldA_ {t : TypeId} {sz : Nat} [hc : TAgg P t sz] {x : Operand} {g : Nat} {l : List Value} {e : TypeId} {fr : Nat × Nat} (hx : ev env x = some (.pointer (some ⟨g, 0, none⟩))) (hp : Pl (blk g (.cells l.toArray e fr)) (vis r L) M) (hl : l.length = sz)
    (hd : Nat.blt d n = true) (hok : okB ops 1 r = true) (k : WN P E n ops Q r ((d, .agg l.toArray) :: env) L) : WB P E n ops Q ⟨some d, .load t x, ty, ps, af, gd⟩ true r env L :=
  s_ (ldA hx hl (fun j v hj => by simpa using hj)) (.cons hp .nil) hd hok k
theorem overL_toList : ∀ (vs : List Value) (cs : Array Value) (i : Nat), i + vs.length ≤ cs.size → (overL cs i vs).toList = cs.toList.take i ++ vs ++ cs.toList.drop (i + vs.length)
  | [], cs, i, h => by simp [overL]
  | v :: vs, cs, i, h => by
    simp only [List.length_cons] at h
    have hlt : i < cs.toList.length := by rw [Array.length_toList]; omega
    rw [overL, overL_toList vs _ (i + 1) (by simp; omega), Array.toList_setIfInBounds, List.take_set, List.take_succ_eq_append_getElem hlt, List.set_append_right _ _ (by simp; omega), List.drop_set_of_lt (by omega)]
    have e : (cs.toList.take i).length = i := by simp; rw [Array.length_toList] at hlt; omega
    rw [e]
    simp [show i + 1 + vs.length = i + (vs.length + 1) from by omega]
theorem overL_one (l : List Value) (i : Nat) (v : Value) : overL l.toArray i [v] = (l.set i v).toArray := by simp [overL]
/-- A store of one cell. -/
theorem st_ {t : TypeId} [hz : TCell P t] {x y : Operand} {g i : Nat} {l l' : List Value} {e : TypeId} {v : Value} (hx : ev env x = some (.pointer (some ⟨g, i, none⟩))) (hy : ev env y = some v) (hp : Pl (blk g (.cells l.toArray e (0, 0))) L M) (h1 : v.oneCell' = true)
    (hs : setN l i v = some l') (hok : okB ops 2 r = true) (hk : kept r (blk g (.cells l'.toArray e (0, 0)) :: M)) (k : WN P E n ops Q (adv r) env (blk g (.cells l'.toArray e (0, 0)) :: M)) : WB P E n ops Q ⟨none, .store t x y, ty, ps, af, gd⟩ true r env L := by
  obtain ⟨h2, h3⟩ := setN_eq hs
  have hc : v.cells = #[v] := by cases v <;> first | rfl | simp [Value.oneCell'] at h1
  have hz' : TSize P t 1 := ⟨hz.size⟩
  refine do0_ (st (sz := 1) hx hy hp (by rw [hc]; rfl) (by have h4 : l.toArray.size = l.length := (by simp); omega) (by rw [hc]; simp [h1])) hok fun u L' h => ?_
  obtain ⟨rfl, rfl⟩ := h
  rw [hc, overL_one, h2]
  exact ⟨hk, k⟩
/-- A store of a whole struct into a block that holds it alone. -/
theorem stA_ {t : TypeId} {sz : Nat} [hz : TSize P t sz] {x y : Operand} {g : Nat} {l : List Value} {cs : Array Value} {e : TypeId} (hx : ev env x = some (.pointer (some ⟨g, 0, none⟩))) (hy : ev env y = some (.agg l.toArray)) (hp : Pl (blk g (.cells cs e (0, 0))) L M) (hl : l.length = sz) (hl2 : cs.toList.length = sz) (h1 : l.all (·.oneCell') = true)
    (hok : okB ops 2 r = true) (hk : kept r (blk g (.cells l.toArray e (0, 0)) :: M)) (k : WN P E n ops Q (adv r) env (blk g (.cells l.toArray e (0, 0)) :: M)) : WB P E n ops Q ⟨none, .store t x y, ty, ps, af, gd⟩ true r env L := by
  refine do0_ (st hx hy hp (by simpa [Value.cells] using hl) (by rw [Array.length_toList] at hl2; omega) (by simpa [Value.cells] using h1)) hok fun u L' h => ?_
  obtain ⟨rfl, rfl⟩ := h
  have : overL cs 0 (Value.agg l.toArray).cells.toList = l.toArray := by
    have key := overL_toList l cs 0 (by rw [Array.length_toList] at hl2; omega)
    rw [Array.length_toList] at hl2
    have e : cs.toList.drop (0 + l.length) = [] := List.drop_eq_nil_of_le (by rw [Array.length_toList]; omega)
    rw [e] at key
    simp at key
    have h5 : overL cs 0 l = l.toArray := Array.toList_inj.1 key
    simpa [Value.cells] using h5
  rw [this]
  exact ⟨hk, k⟩
/-- A new variable. -/
theorem bx_ {t : TypeId} {x : Operand} {v : Value} (hx : ev env x = some v) (hd : Nat.blt d n = true) (hok : okB ops 2 r = true) (k : ∀ g, kept r (blk g (.cells v.cells t (0, 0)) :: L) ∧ WN P E n ops Q (adv r) ((d, .pointer (some ⟨g, 0, none⟩)) :: env) (blk g (.cells v.cells t (0, 0)) :: L)) : WB P E n ops Q ⟨some d, .box t x, ty, ps, af, gd⟩ true r env L :=
  do_ (bx hx) hd hok fun v' L' ⟨g, e1, e2⟩ => by subst e1 e2; exact k g
theorem al_ {t : TypeId} {z : Value} [hz : TZero P t z] (hd : Nat.blt d n = true) (hok : okB ops 2 r = true) (k : ∀ g, kept r (blk g (.cells z.cells t (0, 0)) :: L) ∧ WN P E n ops Q (adv r) ((d, .pointer (some ⟨g, 0, none⟩)) :: env) (blk g (.cells z.cells t (0, 0)) :: L)) : WB P E n ops Q ⟨some d, .alloc t, ty, ps, af, gd⟩ true r env L :=
  do_ al hd hok fun v' L' ⟨g, e1, e2⟩ => by subst e1 e2; exact k g
/-- A call. -/
theorem ca_ {f : FuncId} [hf : TFn P f] {as : List Operand} {ts : Array TypeId} {args : List Value} {pre : List SA} {Post : Value → List SA → Prop} {F : List SA} (hargs : evs env as = some args) (hsp : Ctr P f args pre Post) (hc : Cut L pre F) (hd : Nat.blt d n = true) (hok : okB ops 2 r = true)
    (k : ∀ v L1, Post v L1 → kept r (L1 ++ F) ∧ WN P E n ops Q (adv r) ((d, v) :: env) (L1 ++ F)) : WB P E n ops Q ⟨some d, .call { callee := .value (.func f), args := as.toArray, argTypes := ts }, ty, ps, af, gd⟩ true r env L :=
  do_ (ca hsp hargs hc) hd hok fun v L' ⟨L1, h1, e⟩ => by subst e; exact k v L1 h1
theorem cd_ {f : FuncId} [hf : TFn P f] {as : List Operand} {ts : Array TypeId} {args : List Value} {pre F L2 : List SA} {rv : Value} (hargs : evs env as = some args) (hsp : Ctr P f args pre (fun v L' => v = rv ∧ L' = L2)) (hc : Cut L pre F) (hd : Nat.blt d n = true) (hok : okB ops 2 r = true)
    (hk : kept r (L2 ++ F)) (k : WN P E n ops Q (adv r) ((d, rv) :: env) (L2 ++ F)) : WB P E n ops Q ⟨some d, .call { callee := .value (.func f), args := as.toArray, argTypes := ts }, ty, ps, af, gd⟩ true r env L :=
  ca_ hargs hsp hc hd hok fun v L1 h => by obtain ⟨e1, e2⟩ := h; subst e1 e2; exact ⟨hk, k⟩
/-- A call through a function value. -/
theorem cf_ {f : FuncId} [hf : TFn P f] {x : Operand} {cap : List Value} {as : List Operand} {ts : Array TypeId} {args : List Value} {pre : List SA} {Post : Value → List SA → Prop} {F : List SA} (hx : ev env x = some (.func (.func f) #[] cap.toArray)) (hargs : evs env as = some args) (hsp : Ctr P f (args ++ cap) pre Post) (hc : Cut L pre F) (hd : Nat.blt d n = true) (hok : okB ops 2 r = true)
    (k : ∀ v L1, Post v L1 → kept r (L1 ++ F) ∧ WN P E n ops Q (adv r) ((d, v) :: env) (L1 ++ F)) : WB P E n ops Q ⟨some d, .call { callee := .value x, args := as.toArray, argTypes := ts }, ty, ps, af, gd⟩ true r env L :=
  do_ (cf hx hsp hargs hc) hd hok fun v L' ⟨L1, h1, e⟩ => by subst e; exact k v L1 h1
end

/-! ### 6. A function, entered and left -/
def resV (env : En) : List ResultVar → Option (List Value)
  | [] => some []
  | .tmp t :: l => match lk env t, resV env l with
    | some v, some vs => some (v :: vs)
    | _, _ => none
  | .cell .. :: _ => none
def tup : List Value → Value
  | [v] => v
  | vs => .tuple vs.toArray
theorem resV_ok {a : Act} (ha : EnvOk n env a) {fn : Func} {rs : List ResultVar} {vs : List Value} (hf : fn.results = rs.toArray) (h : resV env rs = some vs) (w : World) : (results fn a.tmps).run P w = .ok (tup vs) w := by
  have key : ∀ (g : ResultVar → Sem Value), (∀ t, g (.tmp t) = pure (a.tmps.getD t undef)) → ∀ (rs : List ResultVar) (vs : List Value), resV env rs = some vs → (rs.mapM g).run P w = .ok vs w := by
    intro g hg rs
    induction rs with
    | nil => intro vs h; simp [resV] at h; subst h; simp
    | cons r rs ih =>
      intro vs h
      cases r with
      | tmp t =>
        simp only [resV] at h
        cases ht : lk env t with
        | none => rw [ht] at h; simp at h
        | some v =>
          rw [ht] at h
          cases hl : resV env rs with
          | none => rw [hl] at h; simp at h
          | some us =>
            rw [hl] at h
            simp at h
            subst h
            have := ha.at_ t v ht
            have ih' := ih us hl
            simp [List.mapM_cons, hg, this, ih']
      | cell x t => simp [resV] at h
  unfold results
  rw [hf]
  simp only [List.mapM_toArray]
  have h3 : ∀ g : ResultVar → Sem Value, (∀ t, g (.tmp t) = pure (a.tmps.getD t undef)) → (do let vs ← (do let r ← rs.mapM g; pure r.toArray : Sem (Array Value)); pure (if h : vs.size = 1 then vs[0] else .tuple vs) : Sem Value).run P w = .ok (tup vs) w := by
    intro g hg
    simp [key g hg rs vs h]
    cases vs with
    | nil => rfl
    | cons v l => cases l <;> rfl
  exact h3 _ fun t => rfl
def Tfin (P : Program) (E : World) (fn : Func) (Post : Value → List SA → Prop) (R : SA) : Act → World → Prop := fun a w =>
  a.defers = [] ∧ ∃ v L', (results fn a.tmps).run P w = .ok v w ∧ Post v L' ∧ Sat E (L' ++ [R]) w
theorem ctr_ {f : FuncId} {fn : Func} {c : Code} {args : List Value} {pre : List SA} {Post : Value → List SA → Prop} {n : Nat} (hf : P.funcs[f]? = some fn) (hb : fn.body = some c) (hn : fn.ntmps = n) (hle : Nat.ble args.length n = true)
    (h : ∀ (E : World) (R : SA), WK P E n (Tfin P E fn Post R) [.code c] (envOf 0 args) (pre ++ [R])) : Ctr P f args pre Post := by
  intro E w R hs
  subst hn
  have hn := Nat.le_of_ble_eq_true hle
  refine calls_of_wp hf hb (Code.wp_mono ?_ (h E R { tmps := args.toArray ++ Array.replicate (fn.ntmps - args.toArray.size) undef, defers := [] } w ?_ hs))
  · intro e a w' hq
    cases e with
    | normal => obtain ⟨h1, v, L', h2, h3, h4⟩ := hq; exact ⟨h1, v, h2, v, L', rfl, h3, h4⟩
    | ret => obtain ⟨h1, v, L', h2, h3, h4⟩ := hq; exact ⟨h1, v, h2, v, L', rfl, h3, h4⟩
    | exit id => exact hq
    | goto l => exact hq
    | panic c => exact hq.elim
    | outgrown => exact hq.elim
  · refine ⟨by simp; omega, rfl, fun x v hx => ?_⟩
    obtain ⟨_, h2⟩ := envOf_ok hx
    have hlt : x < args.length := (List.getElem?_eq_some_iff.1 h2).1
    simp only [Nat.sub_zero] at h2
    show (args.toArray ++ _)[x]? = some v
    rw [Array.getElem?_append_left (by simpa using hlt)]
    simpa using h2
theorem ret_ {fn : Func} {Post : Value → List SA → Prop} {R : SA} {k : List Fr} {L L' : List SA} {rs : List ResultVar} {vs : List Value} (hrs : fn.results = rs.toArray) (hv : resV env rs = some vs) (hP : Post (tup vs) L') (hs : Sel L (L' ++ [R])) :
    WK P E n (Tfin P E fn Post R) (.code .ret :: k) env L := fun a w ha hw => by
  refine wp_ret (QK_ret.2 ⟨ha.defers, tup vs, L', resV_ok ha hrs hv w, hP, hw.sel hs⟩)
theorem fin_ {fn : Func} {Post : Value → List SA → Prop} {R : SA} {L L' : List SA} {rs : List ResultVar} {vs : List Value} (hrs : fn.results = rs.toArray) (hv : resV env rs = some vs) (hP : Post (tup vs) L') (hs : Sel L (L' ++ [R])) :
    WK P E n (Tfin P E fn Post R) [] env L := fun a w ha hw => ⟨ha.defers, tup vs, L', resV_ok ha hrs hv w, hP, hw.sel hs⟩
theorem retD_ {fn : Func} {r : Value} {M : List SA} {R : SA} {k : List Fr} {L : List SA} {rs : List ResultVar} {vs : List Value} (hrs : fn.results = rs.toArray) (hv : resV env rs = some vs) (he : tup vs = r) (hs : Sel L (M ++ [R])) :
    WK P E n (Tfin P E fn (fun v L' => v = r ∧ L' = M) R) (.code .ret :: k) env L := ret_ hrs hv ⟨he, rfl⟩ hs
theorem finD_ {fn : Func} {r : Value} {M : List SA} {R : SA} {L : List SA} {rs : List ResultVar} {vs : List Value} (hrs : fn.results = rs.toArray) (hv : resV env rs = some vs) (he : tup vs = r) (hs : Sel L (M ++ [R])) :
    WK P E n (Tfin P E fn (fun v L' => v = r ∧ L' = M) R) [] env L := fin_ hrs hv ⟨he, rfl⟩ hs
end
/-! ### Which step? (each gives back what it is given, and fails at once at another form) -/
section
variable {P : Program} {E : World} {env : En} {dst : Option Tmp} {ty : TypeId} {ps : String} {af : Array Edge} {gd : Option (Nat × Bool)} {ops : Array Oper} {Q : Exit → Act → World → Prop} {r : Rs} {L : List SA} {n : Nat} {T : Act → World → Prop} {k : List Fr}
theorem gMv_ {x : Operand} (h : WB P E n ops Q ⟨dst, .move x, ty, ps, af, gd⟩ true r env L) : WB P E n ops Q ⟨dst, .move x, ty, ps, af, gd⟩ true r env L := h
theorem gAs_ {x : Operand} (h : WB P E n ops Q ⟨dst, .assign x, ty, ps, af, gd⟩ true r env L) : WB P E n ops Q ⟨dst, .assign x, ty, ps, af, gd⟩ true r env L := h
theorem gFa_ {s f : Nat} {x : Operand} (h : WB P E n ops Q ⟨dst, .fieldAddr s x f, ty, ps, af, gd⟩ true r env L) : WB P E n ops Q ⟨dst, .fieldAddr s x f, ty, ps, af, gd⟩ true r env L := h
theorem gNc_ {x : Operand} (h : WB P E n ops Q ⟨dst, .nilCheck x, ty, ps, af, gd⟩ true r env L) : WB P E n ops Q ⟨dst, .nilCheck x, ty, ps, af, gd⟩ true r env L := h
theorem gLd_ {t : TypeId} {x : Operand} (h : WB P E n ops Q ⟨dst, .load t x, ty, ps, af, gd⟩ true r env L) : WB P E n ops Q ⟨dst, .load t x, ty, ps, af, gd⟩ true r env L := h
theorem gXt_ {x : Operand} {i : Nat} (h : WB P E n ops Q ⟨dst, .extract x i, ty, ps, af, gd⟩ true r env L) : WB P E n ops Q ⟨dst, .extract x i, ty, ps, af, gd⟩ true r env L := h
theorem gCB_ {b : Builtin} {as : Array Operand} {ts : Array TypeId} (h : WB P E n ops Q ⟨dst, .call { callee := .builtin b, args := as, argTypes := ts }, ty, ps, af, gd⟩ true r env L) : WB P E n ops Q ⟨dst, .call { callee := .builtin b, args := as, argTypes := ts }, ty, ps, af, gd⟩ true r env L := h
theorem gCF_ {f : FuncId} {as : Array Operand} {ts : Array TypeId} (h : WB P E n ops Q ⟨dst, .call { callee := .value (.func f), args := as, argTypes := ts }, ty, ps, af, gd⟩ true r env L) : WB P E n ops Q ⟨dst, .call { callee := .value (.func f), args := as, argTypes := ts }, ty, ps, af, gd⟩ true r env L := h
theorem gCV_ {t : Nat} {as : Array Operand} {ts : Array TypeId} (h : WB P E n ops Q ⟨dst, .call { callee := .value (.tmp t), args := as, argTypes := ts }, ty, ps, af, gd⟩ true r env L) : WB P E n ops Q ⟨dst, .call { callee := .value (.tmp t), args := as, argTypes := ts }, ty, ps, af, gd⟩ true r env L := h
theorem gBi_ {o : BinOp} {t t2 : TypeId} {x y : Operand} (h : WB P E n ops Q ⟨dst, .binOp o t x y t2, ty, ps, af, gd⟩ true r env L) : WB P E n ops Q ⟨dst, .binOp o t x y t2, ty, ps, af, gd⟩ true r env L := h
theorem gUn_ {o : UnOp} {t : TypeId} {x : Operand} (h : WB P E n ops Q ⟨dst, .unOp o t x, ty, ps, af, gd⟩ true r env L) : WB P E n ops Q ⟨dst, .unOp o t x, ty, ps, af, gd⟩ true r env L := h
theorem gFl_ {s f : Nat} {x : Operand} (h : WB P E n ops Q ⟨dst, .field s x f, ty, ps, af, gd⟩ true r env L) : WB P E n ops Q ⟨dst, .field s x f, ty, ps, af, gd⟩ true r env L := h
theorem gCv_ {t t2 : TypeId} {x : Operand} (h : WB P E n ops Q ⟨dst, .convert t t2 x, ty, ps, af, gd⟩ true r env L) : WB P E n ops Q ⟨dst, .convert t t2 x, ty, ps, af, gd⟩ true r env L := h
theorem gSl_ {t : TypeId} {x : Operand} {lo hi mx : Option Operand} (h : WB P E n ops Q ⟨dst, .slice t x lo hi mx, ty, ps, af, gd⟩ true r env L) : WB P E n ops Q ⟨dst, .slice t x lo hi mx, ty, ps, af, gd⟩ true r env L := h
theorem gIx_ {t : TypeId} {x y : Operand} (h : WB P E n ops Q ⟨dst, .index t x y, ty, ps, af, gd⟩ true r env L) : WB P E n ops Q ⟨dst, .index t x y, ty, ps, af, gd⟩ true r env L := h
theorem gIa_ {t : TypeId} {x y : Operand} (h : WB P E n ops Q ⟨dst, .indexAddr t x y, ty, ps, af, gd⟩ true r env L) : WB P E n ops Q ⟨dst, .indexAddr t x y, ty, ps, af, gd⟩ true r env L := h
theorem gPi_ {c x y : Operand} (h : WB P E n ops Q ⟨dst, .pick c x y, ty, ps, af, gd⟩ true r env L) : WB P E n ops Q ⟨dst, .pick c x y, ty, ps, af, gd⟩ true r env L := h
theorem gSt_ {t : TypeId} {x y : Operand} (h : WB P E n ops Q ⟨dst, .store t x y, ty, ps, af, gd⟩ true r env L) : WB P E n ops Q ⟨dst, .store t x y, ty, ps, af, gd⟩ true r env L := h
theorem gBx_ {t : TypeId} {x : Operand} (h : WB P E n ops Q ⟨dst, .box t x, ty, ps, af, gd⟩ true r env L) : WB P E n ops Q ⟨dst, .box t x, ty, ps, af, gd⟩ true r env L := h
theorem gAl_ {t : TypeId} (h : WB P E n ops Q ⟨dst, .alloc t, ty, ps, af, gd⟩ true r env L) : WB P E n ops Q ⟨dst, .alloc t, ty, ps, af, gd⟩ true r env L := h
theorem gBd_ {t : TypeId} {pp : Array (Nat × Operand)} (h : WB P E n ops Q ⟨dst, .build t pp, ty, ps, af, gd⟩ true r env L) : WB P E n ops Q ⟨dst, .build t pp, ty, ps, af, gd⟩ true r env L := h
theorem gBs_ {t : TypeId} {k : Nat} {pp : Array (Nat × Operand)} (h : WB P E n ops Q ⟨dst, .buildSlice t k pp, ty, ps, af, gd⟩ true r env L) : WB P E n ops Q ⟨dst, .buildSlice t k pp, ty, ps, af, gd⟩ true r env L := h
theorem gMk_ {t : TypeId} {x y : Operand} (h : WB P E n ops Q ⟨dst, .makeSlice t x y, ty, ps, af, gd⟩ true r env L) : WB P E n ops Q ⟨dst, .makeSlice t x y, ty, ps, af, gd⟩ true r env L := h
theorem gMf_ {f : Fn} {x y : Array Operand} (h : WB P E n ops Q ⟨dst, .makeFunc f x y, ty, ps, af, gd⟩ true r env L) : WB P E n ops Q ⟨dst, .makeFunc f x y, ty, ps, af, gd⟩ true r env L := h
theorem gG_ {o : Oper} (h : WB P E n ops Q o false r env L) : WB P E n ops Q o false r env L := h
theorem gN_ (h : WN P E n ops Q r env L) : WN P E n ops Q r env L := h
theorem cSeq_ {c d : Code} (h : WK P E n T (.code (.seq c d) :: k) env L) : WK P E n T (.code (.seq c d) :: k) env L := h
theorem cReg_ {i : Nat} {l : Array Oper} (h : WK P E n T (.code (.region i l false) :: k) env L) : WK P E n T (.code (.region i l false) :: k) env L := h
theorem cRegD_ {i : Nat} {l : Array Oper} (h : WK P E n T (.code (.region i l true) :: k) env L) : WK P E n T (.code (.region i l true) :: k) env L := h
theorem cIf_ {x : Operand} {c d : Code} (h : WK P E n T (.code (.cond x c d) :: k) env L) : WK P E n T (.code (.cond x c d) :: k) env L := h
theorem cSkip_  (h : WK P E n T (.code .skip :: k) env L) : WK P E n T (.code .skip :: k) env L := h
theorem cBlock_ {i : Nat} {c : Code} (h : WK P E n T (.code (.block i c) :: k) env L) : WK P E n T (.code (.block i c) :: k) env L := h
theorem cBlk_ {i : Nat} (h : WK P E n T (.blk i :: k) env L) : WK P E n T (.blk i :: k) env L := h
theorem cExit_ {i : Nat} (h : WK P E n T (.code (.exit i) :: k) env L) : WK P E n T (.code (.exit i) :: k) env L := h
theorem cRet_  (h : WK P E n T (.code .ret :: k) env L) : WK P E n T (.code .ret :: k) env L := h
theorem cLoop_ {c : Code} (h : WK P E n T (.code (.loop c) :: k) env L) : WK P E n T (.code (.loop c) :: k) env L := h
theorem cStop_ {J : En → List SA → Prop} (h : WK P E n T (.stop J :: k) env L) : WK P E n T (.stop J :: k) env L := h
end
end Go.SL
