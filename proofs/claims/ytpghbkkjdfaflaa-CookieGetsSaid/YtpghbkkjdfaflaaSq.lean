/- Rows of equal length in memory, and their readings. -/
import Derived.Test.YtpghbkkjdfaflaaSp
set_option linter.unusedVariables false
set_option linter.unusedSimpArgs false
namespace Go.SL
open Go.RowKit
attribute [local irreducible] Val ValS Does WN WB WK Sat Ctr Wn Tfin
section
variable {α : Type} {row : α → List Value} {sz : Nat}
def rowsL (row : α → List Value) (l : List α) : List Value := l.flatMap row
theorem rows_length (h : ∀ a, (row a).length = sz) : ∀ l : List α, (rowsL row l).length = l.length * sz
  | [] => by simp [rowsL]
  | a :: l => by
    have ih := rows_length h l
    unfold rowsL at ih ⊢
    rw [List.flatMap_cons, List.length_append, h, ih, List.length_cons, Nat.succ_mul]
    omega
theorem rows_get (h : ∀ a, (row a).length = sz) : ∀ (l : List α) (i j : Nat) (a : α), l[i]? = some a → j < sz → (rowsL row l)[i * sz + j]? = (row a)[j]?
  | [], i, j, a, hi, hj => by simp at hi
  | b :: l, 0, j, a, hi, hj => by
    simp only [List.getElem?_cons_zero, Option.some.injEq] at hi
    subst hi
    unfold rowsL
    rw [List.flatMap_cons, Nat.zero_mul, Nat.zero_add, List.getElem?_append_left (by rw [h]; exact hj)]
  | b :: l, i + 1, j, a, hi, hj => by
    simp only [List.getElem?_cons_succ] at hi
    have ih := rows_get h l i j a hi hj
    unfold rowsL at ih ⊢
    rw [List.flatMap_cons, List.getElem?_append_right (by rw [h, Nat.succ_mul]; omega), h, ← ih]
    congr 1
    rw [Nat.succ_mul]
    omega
end
section
variable {P : Program} {E : World} {n : Nat} {env : En} {d : Nat} {ty : TypeId} {ps : String} {af : Array Edge} {gd : Option (Nat × Bool)} {ops : Array Oper} {Q : Exit → Act → World → Prop} {r : Rs} {L M : List SA}
variable {α : Type} {row : α → List Value} {sz : Nat}
theorem at0 {g i s : Nat} : (⟨g, 0, none⟩ : Addr).add ((i : Int).toNat * s) = ⟨g, i * s, none⟩ := by
  rw [add_pl, Nat.zero_add, Int.toNat_natCast]
theorem at1 {g i s j : Nat} : ((⟨g, 0, none⟩ : Addr).add ((i : Int).toNat * s)).add j = ⟨g, i * s + j, none⟩ := by
  rw [at0, add_pl]
/-- A whole row of frozen rows. -/
theorem ldR_ {t : TypeId} [hc : TAgg P t sz] {x : Operand} {p : Addr} {g i : Nat} {l : List α} {b : α} {e : TypeId} {fr : Nat × Nat} (hrow : ∀ a, (row a).length = sz) (hx : ev env x = some (.pointer (some p))) (hp : Pl (ro g (.cells (rowsL row l).toArray e fr)) (vis r L) M) (ho : p = ⟨g, i * sz, none⟩) (hi : l[i]? = some b)
    (hd : Nat.blt d n = true) (hok : okB ops 1 r = true) (k : WN P E n ops Q r ((d, .agg (row b).toArray) :: env) L) : WB P E n ops Q ⟨some d, .load t x, ty, ps, af, gd⟩ true r env L := by
  subst ho
  refine s_ (ldAro hx (hrow b) (fun j v hj => ?_)) (.cons hp .nil) hd hok k
  have hlt : j < sz := by rw [← hrow b]; exact (List.getElem?_eq_some_iff.1 hj).1
  rw [List.getElem?_toArray, rows_get hrow l i j b hi hlt]
  exact hj
/-- One cell of a row of frozen rows. -/
theorem ldRc_ {t : TypeId} [hc : TCell P t] {x : Operand} {p : Addr} {g i j : Nat} {l : List α} {b : α} {v : Value} {e : TypeId} {fr : Nat × Nat} (hrow : ∀ a, (row a).length = sz) (hx : ev env x = some (.pointer (some p))) (hp : Pl (ro g (.cells (rowsL row l).toArray e fr)) (vis r L) M) (ho : p = ⟨g, i * sz + j, none⟩) (hj : j < sz) (hi : l[i]? = some b) (hv : nth (row b) j = some v)
    (hd : Nat.blt d n = true) (hok : okB ops 1 r = true) (k : WN P E n ops Q r ((d, v) :: env) L) : WB P E n ops Q ⟨some d, .load t x, ty, ps, af, gd⟩ true r env L := by
  subst ho
  refine ldro_ hx hp ?_ hd hok k
  rw [← nth_eq] at hv ⊢
  show (rowsL row l)[i * sz + j]? = some v
  rw [rows_get hrow l i j b hi hj]
  exact hv
theorem ldRb_ {t : TypeId} [hc : TAgg P t sz] {x : Operand} {p : Addr} {g i : Nat} {l : List α} {b : α} {e : TypeId} {fr : Nat × Nat} (hrow : ∀ a, (row a).length = sz) (hx : ev env x = some (.pointer (some p))) (hp : Pl (blk g (.cells (rowsL row l).toArray e fr)) (vis r L) M) (ho : p = ⟨g, i * sz, none⟩) (hi : l[i]? = some b)
    (hd : Nat.blt d n = true) (hok : okB ops 1 r = true) (k : WN P E n ops Q r ((d, .agg (row b).toArray) :: env) L) : WB P E n ops Q ⟨some d, .load t x, ty, ps, af, gd⟩ true r env L := by
  subst ho
  refine s_ (ldA hx (hrow b) (fun j v hj => ?_)) (.cons hp .nil) hd hok k
  have hlt : j < sz := by rw [← hrow b]; exact (List.getElem?_eq_some_iff.1 hj).1
  rw [List.getElem?_toArray, rows_get hrow l i j b hi hlt]
  exact hj
theorem ldRbc_ {t : TypeId} [hc : TCell P t] {x : Operand} {p : Addr} {g i j : Nat} {l : List α} {b : α} {v : Value} {e : TypeId} {fr : Nat × Nat} (hrow : ∀ a, (row a).length = sz) (hx : ev env x = some (.pointer (some p))) (hp : Pl (blk g (.cells (rowsL row l).toArray e fr)) (vis r L) M) (ho : p = ⟨g, i * sz + j, none⟩) (hj : j < sz) (hi : l[i]? = some b) (hv : nth (row b) j = some v)
    (hd : Nat.blt d n = true) (hok : okB ops 1 r = true) (k : WN P E n ops Q r ((d, v) :: env) L) : WB P E n ops Q ⟨some d, .load t x, ty, ps, af, gd⟩ true r env L := by
  subst ho
  refine ld_ hx hp ?_ hd hok k
  rw [← nth_eq] at hv ⊢
  show (rowsL row l)[i * sz + j]? = some v
  rw [rows_get hrow l i j b hi hj]
  exact hv
theorem frzK_ {T : Act → World → Prop} {k : List Fr} {g : Nat} {o : Obj} (hp : Pl (blk g o) L M) (h : WK P E n T k env (ro g o :: M)) : WK P E n T k env L := wk_imp (fun w h => (h.pl hp).freeze) h
end
/-! What a literal fits. -/
theorem u32_lo {a : Int} (h : (Lit.int .u32 a).wf = true) : 0 ≤ a := by
  simp [Lit.wf, IntKind.min, IntKind.max, IntKind.signed, IntKind.bits] at h
  omega
theorem u32_hi {a : Int} (h : (Lit.int .u32 a).wf = true) : a < 4294967296 := by
  simp [Lit.wf, IntKind.min, IntKind.max, IntKind.signed, IntKind.bits] at h
  omega
end Go.SL
