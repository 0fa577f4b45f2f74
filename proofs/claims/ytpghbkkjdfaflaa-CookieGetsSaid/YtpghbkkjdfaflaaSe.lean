/- '==' of structs whose fields are plain cells. -/
import Derived.Test.YtpghbkkjdfaflaaSq
import Derived.Laws.StructEq
set_option linter.unusedVariables false
set_option linter.unusedSimpArgs false
namespace Go.SL
open Go.RowKit
/-- Which plain cells a type takes. -/
inductive Kind | i | s | b
class TKind (P : Program) (t : TypeId) (k : outParam Kind) : Prop where
  cell : TCell P t
  und : match k with | .i => ∃ j, P.underlying t = some (.int j) | .s => P.underlying t = some .string | .b => P.underlying t = some .bool
instance kI {P : Program} {t : TypeId} {j : IntKind} [hc : TCell P t] [h : TInt P t j] : TKind P t .i := ⟨hc, _, h.und⟩
instance kS {P : Program} {t : TypeId} [hc : TCell P t] [h : TStr P t] : TKind P t .s := ⟨hc, h.und⟩
instance kB {P : Program} {t : TypeId} [hc : TCell P t] [h : TBool P t] : TKind P t .b := ⟨hc, h.und⟩
def kEq : Kind → Value → Value → Option Bool
  | .i, .int k a, .int k' b => if k = k' then some (a == b) else none
  | .s, .string a, .string b => some (a.toList == b.toList)
  | .b, .bool a, .bool b => some (a == b)
  | _, _, _ => none
def ksEq : List Kind → List Value → List Value → Option Bool
  | [], [], [] => some true
  | k :: ks, a :: l, b :: m => match kEq k a b, ksEq ks l m with
    | some r, some s => some (r && s)
    | _, _ => none
  | _, _, _ => none
theorem kEq_ok {P : Program} {t : TypeId} {k : Kind} [h : TKind P t k] {a b : Value} {r : Bool} (d : Nat) (w : World) (he : kEq k a b = some r) : (Op.equalIn (d + 1) t a b).run P w = .ok r w := by
  have hu := h.und
  cases k with
  | i =>
    obtain ⟨j, hu⟩ := hu
    cases a <;> cases b <;> simp [kEq] at he
    obtain ⟨e1, e2⟩ := he
    subst e1 e2
    simp [Op.equalIn, run_und hu]
  | s =>
    simp only at hu
    cases a <;> cases b <;> simp [kEq] at he
    subst he
    simp [Op.equalIn, run_und hu, beq_toListBytes]
  | b =>
    simp only at hu
    cases a <;> cases b <;> simp [kEq] at he
    subst he
    simp [Op.equalIn, run_und hu]
inductive TKinds (P : Program) : List TypeId → List Kind → Prop
  | nil : TKinds P [] []
  | cons {t : TypeId} {ts : List TypeId} {k : Kind} {ks : List Kind} [h : TKind P t k] : TKinds P ts ks → TKinds P (t :: ts) (k :: ks)
def flatGo : Nat → List Field → Option (List TypeId)
  | _, [] => some []
  | o, f :: fs => if f.name != "_" && f.offset == o then (flatGo (o + 1) fs).map (f.type :: ·) else none
def flatB (P : Program) (t : TypeId) : Option (List TypeId) := match P.underlying t with
  | some (.struct fs) => flatGo 0 fs.toList
  | _ => none
class TFlat (P : Program) (t : TypeId) (ks : outParam (List Kind)) : Prop where
  flat : ∃ ts, flatB P t = some ts ∧ TKinds P ts ks
  held : P.stoodInHeld t = false
  guard : P.eqGuardType P.depth t = false
theorem flat_ok {P : Program} (d : Nat) (w : World) (xs ys : Array Value) : ∀ (fs : List Field) (o : Nat) (ts : List TypeId) (ks : List Kind) (r : Bool), flatGo o fs = some ts → TKinds P ts ks → ksEq ks (xs.toList.drop o) (ys.toList.drop o) = some r → (Op.eqFields (d + 1) xs ys fs).run P w = .ok r w
  | [], o, ts, ks, r, hf, hk, he => by
    simp only [flatGo, Option.some.injEq] at hf
    subst hf
    cases hk
    cases h1 : xs.toList.drop o <;> cases h2 : ys.toList.drop o <;> rw [h1, h2] at he <;> simp [ksEq] at he
    subst he
    simp [Op.eqFields]
  | f :: fs, o, ts, ks, r, hf, hk, he => by
    unfold flatGo at hf
    split at hf
    · rename_i hc
      simp only [Bool.and_eq_true, bne_iff_ne, ne_eq, beq_iff_eq] at hc
      cases hg : flatGo (o + 1) fs with
      | none => rw [hg] at hf; simp at hf
      | some ts' =>
        rw [hg] at hf
        simp only [Option.map_some, Option.some.injEq] at hf
        subst hf
        cases hk with
        | @cons _ _ k ks' hK hks =>
        cases h1 : xs.toList.drop o with
        | nil => rw [h1] at he; simp [ksEq] at he
        | cons a l =>
          cases h2 : ys.toList.drop o with
          | nil => rw [h1, h2] at he; simp [ksEq] at he
          | cons b m =>
            rw [h1, h2] at he
            unfold ksEq at he
            cases e1 : kEq k a b with
            | none => rw [e1] at he; simp at he
            | some r1 =>
              cases e2 : ksEq ks' l m with
              | none => rw [e1, e2] at he; simp at he
              | some r2 =>
                rw [e1, e2] at he
                simp only [Option.some.injEq] at he
                have l1 : xs.toList.drop (o + 1) = l := by rw [← List.drop_drop, h1]; rfl
                have l2 : ys.toList.drop (o + 1) = m := by rw [← List.drop_drop, h2]; rfl
                have ih := flat_ok d w xs ys fs (o + 1) ts' ks' r2 hg hks (by rw [l1, l2]; exact e2)
                have p1 : xs[o]? = some a := by rw [← Array.getElem?_toList, ← List.head?_drop, h1]; rfl
                have p2 : ys[o]? = some b := by rw [← Array.getElem?_toList, ← List.head?_drop, h2]; rfl
                have q := kEq_ok (P := P) (t := f.type) d w e1
                have hcell := hK.cell
                rw [Op.eqFields, if_pos hc.1]
                obtain ⟨hc1, hc2⟩ := hc
                subst hc2
                have r1' : (part f.type xs f.offset).run P w = .ok a w := by simp [part, hcell.agg, p1]
                have r2' : (part f.type ys f.offset).run P w = .ok b w := by simp [part, hcell.agg, p2]
                simp only [Sem.run_bind, r1', r2', q, Result.andThen_ok]
                subst he
                cases r1
                · simp
                · simpa using ih
    · cases hf
section
variable {P : Program} {n : Nat} {env : En} {d : Option Tmp} {ty : TypeId} {ps : String} {af : Array Edge} {gd : Option (Nat × Bool)}
theorem flat_eq {t : TypeId} {ks : List Kind} [h : TFlat P t ks] {xs ys : Array Value} {r : Bool} (hr : ksEq ks xs.toList ys.toList = some r) (w : World) : (Op.equal t (.agg xs) (.agg ys)).run P w = .ok r w := by
  obtain ⟨ts, hf, hk⟩ := h.flat
  show (Op.equalIn (9998 + 1 + 1) t (.agg xs) (.agg ys)).run P w = .ok r w
  unfold flatB at hf
  split at hf
  · rename_i fs hu
    have e : P.fieldsOf t = fs := by simp [Program.fieldsOf, hu]
    rw [run_equalIn_struct (P := P) w _ t xs ys (by rw [e]; exact hu) h.held, e]
    exact flat_ok 9998 w xs ys fs.toList 0 ts ks r hf hk (by simpa using hr)
  · cases hf
theorem aEq {t t' : TypeId} {ks : List Kind} [h : TFlat P t ks] {x y : Operand} {xs ys : Array Value} {r : Bool} (hx : ev env x = some (.agg xs)) (hy : ev env y = some (.agg ys)) (hr : ksEq ks xs.toList ys.toList = some r) : Val P n ⟨d, .binOp .eql t x y t', ty, ps, af, gd⟩ env (.bool r) := fun a w ha => by
  have e : (execOp a.eval ⟨d, .binOp .eql t x y t', ty, ps, af, gd⟩) = (do eqGuard .eql t x y (.agg xs) (.agg ys); let r ← binOp .eql t (.agg xs) (.agg ys); pure (.value r) : Sem Next) := by
    simp [execOp, ha.eval hx, ha.eval hy]
  have e2 := flat_eq (P := P) (t := t) hr w
  rw [e]
  simp only [eqGuard, binOp]
  simp [e2, h.guard]
theorem aNe {t t' : TypeId} {ks : List Kind} [h : TFlat P t ks] {x y : Operand} {xs ys : Array Value} {r : Bool} (hx : ev env x = some (.agg xs)) (hy : ev env y = some (.agg ys)) (hr : ksEq ks xs.toList ys.toList = some r) : Val P n ⟨d, .binOp .neq t x y t', ty, ps, af, gd⟩ env (.bool (!r)) := fun a w ha => by
  have e : (execOp a.eval ⟨d, .binOp .neq t x y t', ty, ps, af, gd⟩) = (do eqGuard .neq t x y (.agg xs) (.agg ys); let r ← binOp .neq t (.agg xs) (.agg ys); pure (.value r) : Sem Next) := by
    simp [execOp, ha.eval hx, ha.eval hy]
  have e2 := flat_eq (P := P) (t := t) hr w
  rw [e]
  simp only [eqGuard, binOp]
  simp [e2, h.guard]
end
end Go.SL
