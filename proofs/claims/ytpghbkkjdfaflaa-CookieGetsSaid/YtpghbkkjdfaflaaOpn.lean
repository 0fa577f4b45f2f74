/- What is handed in, opened: what a type's reading tells of cells. -/
import Derived.Test.YtpghbkkjdfaflaaVe2
import Derived.Deep.Slices
import Derived.OpenShut
import Derived.ChangeArms
import Derived.ChangeOld
import Derived.Carry
import Derived.ProofKit
set_option linter.unusedVariables false
set_option linter.unusedSimpArgs false
namespace Go.SL
open Go.RowKit Go.ChangeShapes Go.WideShapes Go.Deep
abbrev RP := World → List Value → Prop
def PInt (k : IntKind) : RP := fun _ cs => ∃ n, cs = [.int k n] ∧ (Lit.int k n).wf = true
def PStr : RP := fun _ cs => ∃ s : ByteArray, cs = [.string s] ∧ s.size ≤ maxLen
def PBool : RP := fun _ cs => ∃ b, cs = [.bool b]
def PStruct (n : Nat) (qs : List (Nat × Nat × RP)) : RP := fun w cs => cs.length = n ∧ ∀ x ∈ qs, x.2.2 w ((cs.drop x.1).take x.2.1)
def PArr (tot n sz : Nat) (q : RP) : RP := fun w cs => cs.length = tot ∧ ∀ i, i < n → q w ((cs.drop (i * sz)).take sz)
def PSlice (sz : Nat) (q : RP) : RP := fun w cs => cs = [.slice none 0 0] ∨ ∃ a len cap, cs = [.slice (some a) len cap] ∧ len ≤ cap ∧ cap ≤ maxLen ∧
  ∀ i, i < len → ∃ row : List Value, row.length = sz ∧ (∀ j v, row[j]? = some v → w.cell? ((a.add (i * sz)).add j) = some v) ∧ q w row
/-- What is read of a type is so. -/
class Tr (P : Program) (t : TypeId) (q : outParam RP) : Prop where
  of : ∀ {H : Type} (enc : TypeId × Value → H) (w : World) (spare : Nat → Bool) (held : Bool) (fuel : Nat) (cs : List Value) (x : DataW H × List MemPlace), DataW.trod enc P w 0 spare held fuel t cs = some x → q w cs
class TCells (P : Program) (t : TypeId) (n : outParam Nat) : Prop where
  cells : P.cellsOf t = n
instance tcI {P : Program} {t : TypeId} {sz b : Nat} [h : TInfo P t sz b] : TCells P t sz := ⟨by
  have h1 := h.info
  unfold Program.cellsOf
  cases hi : P.info? t with
  | none => rw [hi] at h1; simp at h1
  | some i => rw [hi] at h1; simp at h1 ⊢; exact h1.1⟩
instance trI {P : Program} {t : TypeId} {k : IntKind} [h : TInt P t k] : Tr P t (PInt k) := ⟨fun enc w spare held fuel cs x ht => by
  obtain ⟨n, h1, _, h2⟩ := DataW.trod_int h.und ht
  exact ⟨n, h1, h2⟩⟩
instance trS {P : Program} {t : TypeId} [h : TStr P t] : Tr P t PStr := ⟨fun enc w spare held fuel cs x ht => by
  obtain ⟨s, h1, _, h2⟩ := DataW.trod_string h.und ht
  exact ⟨s, h1, h2⟩⟩
instance trB {P : Program} {t : TypeId} [h : TBool P t] : Tr P t PBool := ⟨fun enc w spare held fuel cs x ht => by
  obtain ⟨b, h1, _⟩ := DataW.trod_bool h.und ht
  exact ⟨b, h1⟩⟩
instance trL {P : Program} {t e : TypeId} {sz : Nat} {q : RP} [h : TSlc P t e] [hc : TCells P e sz] [he : Tr P e q] : Tr P t (PSlice sz q) := ⟨fun enc w spare held fuel cs x ht => by
  rcases open_slice h.und ht with ⟨h1, _⟩ | ⟨a, len, cap, m, n, D, Pl, h1, h2, h3, h4, h5, h6, h7⟩
  · exact .inl h1
  · rw [hc.cells] at h7
    have hlen : len ≤ m := by rw [h5]; split <;> omega
    refine .inr ⟨a, len, cap, h1, h3, h4, fun i hi => ?_⟩
    obtain ⟨cs', hcs, htr⟩ := h7 i (by omega)
    obtain ⟨g1, g2, g3⟩ := World.cells?_some hcs
    refine ⟨cs', g2, fun j v hj => ?_, he.of enc w spare held n cs' _ htr⟩
    have hlt : j < cs'.length := (List.getElem?_eq_some_iff.1 hj).1
    rw [g3 j (by omega)]
    exact hj⟩
instance trA {P : Program} {t e : TypeId} {m sz tot : Nat} {q : RP} [h : TArr P t m e] [hc : TCells P e sz] [ht' : TCells P t tot] [he : Tr P e q] : Tr P t (PArr tot m sz q) := ⟨fun enc w spare held fuel cs x ht => by
  obtain ⟨xs, n, _, _, h1, h2, h3⟩ := DataW.trod_array h.und ht
  rw [ht'.cells] at h1
  refine ⟨h1, fun i hi => ?_⟩
  have h4 := h3 i hi
  rw [hc.cells, List.getElem?_eq_getElem (by omega)] at h4
  exact he.of enc w spare held n _ _ h4⟩
class TStruct (P : Program) (t : TypeId) : Prop where
  und : (match P.underlying t with | some (.struct _) => true | _ => false) = true
/-- A struct's fields, one by one. -/
inductive TrF (P : Program) (t : TypeId) : List (Nat × Nat × RP) → Prop
  | nil : TrF P t []
  | cons {j off ft sz : Nat} {q : RP} {qs : List (Nat × Nat × RP)} (hf : TFld P t j off ft) (hc : TCells P ft sz) (hq : Tr P ft q) (h : TrF P t qs) : TrF P t ((off, sz, q) :: qs)
theorem tr_struct {P : Program} {t : TypeId} {n : Nat} {qs : List (Nat × Nat × RP)} (hs : TStruct P t) (hn : TCells P t n) (hf : TrF P t qs) : Tr P t (PStruct n qs) := ⟨fun enc w spare held fuel cs x ht => by
  have hu := hs.und
  split at hu
  · rename_i fs hu'
    obtain ⟨xs, m, _, _, h1, h2, h3⟩ := DataW.trod_struct hu' ht
    rw [hn.cells] at h1
    refine ⟨h1, ?_⟩
    induction hf with
    | nil => intro x hx; cases hx
    | cons hf hc hq hr ih =>
      intro x hx
      rcases List.mem_cons.1 hx with rfl | hx
      · obtain ⟨fs', fx, g1, g2, rfl, rfl⟩ := fld_und hf.fld
        rw [hu'] at g1
        cases g1
        have hlt := (Array.getElem?_eq_some_iff.1 g2).1
        have h4 := (h3 _ fx g2).trans (List.getElem?_eq_getElem (by omega))
        rw [hc.cells] at h4
        exact hq.of enc w spare held m _ _ h4
      · exact ih x hx
  · cases hu⟩
/-- The forms of arguments. -/
theorem okWide_agg {P : Program} {w : World} {r : Reach} {base : Nat} {t : TypeId} {v : Value} (ht : (match P.underlying t with | some (.struct _) | some (.array _ _) => true | _ => false) = true) (h : Value.okWide P w r base t v) : ∃ cs, v = .agg cs := by
  unfold Value.okWide at h
  split at h
  · obtain ⟨cs, h1, _⟩ := h; exact ⟨cs, h1⟩
  · obtain ⟨cs, h1, _⟩ := h; exact ⟨cs, h1⟩
  · rename_i h1 h2
    split at ht
    · rename_i fs hu; exact absurd hu (h1 fs)
    · rename_i a b hu; exact absurd hu (h2 a b)
    · cases ht
/-- A row of elements in the memory of the beginning. -/
def RowB {α : Type} (w : World) (a : Option Addr) (sz : Nat) (row : α → List Value) (xs : List α) : Prop :=
  ∀ (i : Nat) (x : α), xs[i]? = some x → ∃ b, a = some b ∧ ∀ j v, (row x)[j]? = some v → w.cell? ((b.add (i * sz)).add j) = some v
theorem rowB_of {α : Type} {w : World} {sz len : Nat} {a : Addr} {q : RP} (row : α → List Value) (ok : α → Prop) (h : ∀ i, i < len → ∃ r : List Value, r.length = sz ∧ (∀ j v, r[j]? = some v → w.cell? ((a.add (i * sz)).add j) = some v) ∧ q w r)
    (hq : ∀ r : List Value, r.length = sz → q w r → ∃ x, row x = r ∧ ok x) : ∃ xs : List α, xs.length = len ∧ RowB w (some a) sz row xs ∧ ∀ x ∈ xs, ok x := by
  induction len with
  | zero => exact ⟨[], rfl, fun i x hi => by simp at hi, fun x hx => by cases hx⟩
  | succ n ih =>
    obtain ⟨xs, h1, h2, h3⟩ := ih (fun i hi => h i (by omega))
    obtain ⟨r, g1, g2, g3⟩ := h n (by omega)
    obtain ⟨x, rfl, hx⟩ := hq r g1 g3
    refine ⟨xs ++ [x], by simp [h1], fun i y hi => ?_, fun y hy => ?_⟩
    · rcases Nat.lt_or_ge i xs.length with hlt | hge
      · rw [List.getElem?_append_left hlt] at hi
        exact h2 i y hi
      · rw [List.getElem?_append_right hge] at hi
        have hi0 : i - xs.length = 0 := by
          rcases Nat.eq_zero_or_pos (i - xs.length) with h | h
          · exact h
          · rw [List.getElem?_eq_none (by simp; omega)] at hi; cases hi
        rw [hi0] at hi
        simp only [List.getElem?_cons_zero, Option.some.injEq] at hi
        subst hi
        have e : i = n := by omega
        subst e
        exact ⟨a, rfl, g2⟩
    · rcases List.mem_append.1 hy with hy | hy
      · exact h3 y hy
      · simp only [List.mem_singleton] at hy
        subst hy
        exact hx
/-- A slice that was handed in: its elements. -/
theorem rows_in {α : Type} {w : World} {sz : Nat} {q : RP} {p : Option Addr} {n c : Nat} (row : α → List Value) (ok : α → Prop) (h : PSlice sz q w [.slice p n c]) (hq : ∀ r : List Value, r.length = sz → q w r → ∃ x, row x = r ∧ ok x) :
    ∃ xs : List α, xs.length = n ∧ n ≤ c ∧ c ≤ maxLen ∧ RowB w p sz row xs ∧ ∀ x ∈ xs, ok x := by
  rcases h with h | ⟨a, len, cap, h1, h2, h3, h4⟩
  · simp only [List.cons.injEq, Value.slice.injEq, and_true] at h
    obtain ⟨rfl, rfl, rfl⟩ := h
    exact ⟨[], rfl, Nat.le_refl _, Nat.zero_le _, fun i x hi => by simp at hi, fun x hx => by cases hx⟩
  · simp only [List.cons.injEq, Value.slice.injEq, and_true] at h1
    obtain ⟨rfl, rfl, rfl⟩ := h1
    obtain ⟨xs, g1, g2, g3⟩ := rowB_of row ok h4 hq
    exact ⟨xs, g1, h2, h3, g2, g3⟩
theorem int_row {k : IntKind} {w : World} (r : List Value) (_ : r.length = 1) (h : PInt k w r) : ∃ x : Int, [Value.int k x] = r ∧ (Lit.int k x).wf = true := by
  obtain ⟨n, rfl, hw⟩ := h
  exact ⟨n, rfl, hw⟩
theorem str_row {w : World} (r : List Value) (_ : r.length = 1) (h : PStr w r) : ∃ x : ByteArray, [Value.string x] = r ∧ x.size ≤ maxLen := by
  obtain ⟨n, rfl, hw⟩ := h
  exact ⟨n, rfl, hw⟩
/-! Steps: elements that were handed in. -/
section
variable {P : Program} {E : World} {n : Nat} {env : En} {d : Nat} {ty : TypeId} {ps : String} {af : Array Edge} {gd : Option (Nat × Bool)} {ops : Array Oper} {Q : Exit → Act → World → Prop} {r : Rs} {L M : List SA}
variable {α : Type} {row : α → List Value} {sz : Nat}
theorem w_lb {t : TypeId} [hc : TCell P t] {x : Operand} {a q : Addr} {w0 : World} {i j : Nat} {xs : List α} {b : α} {v : Value} (hr : RowB w0 (some a) sz row xs) (hi : xs[i]? = some b) (hx : ev env x = some (.pointer (some q)) := by exact rfl)
    (ho : q = (a.add (i * sz)).add j := by exact rfl) (hv : nth (row b) j = some v := by exact rfl) (hp : Pl (base w0) (vis r L) M := by ((repeat (first | exact .head | apply Pl.tail)); first | done | fail)) (hd : Nat.blt d n = true := by exact rfl) (hok : okB ops 1 r = true := by kernel_rfl)
    (k : WN P E n ops Q r ((d, v) :: env) L) : WB P E n ops Q ⟨some d, .load t x, ty, ps, af, gd⟩ true r env L := by
  subst ho
  rw [← nth_eq] at hv
  obtain ⟨b', hb, hcell⟩ := hr i b hi
  cases hb
  exact ldb_ hx (hcell j v hv) hp hd hok k
theorem add_zero' (a : Addr) : a.add 0 = a := by simp [Addr.add]
theorem w_lb0 {t : TypeId} [hc : TCell P t] {x : Operand} {a q : Addr} {w0 : World} {i : Nat} {xs : List α} {b : α} {v : Value} (hr : RowB w0 (some a) sz row xs) (hi : xs[i]? = some b) (hx : ev env x = some (.pointer (some q)) := by exact rfl)
    (ho : q = a.add (i * sz) := by exact rfl) (hv : nth (row b) 0 = some v := by exact rfl) (hp : Pl (base w0) (vis r L) M := by ((repeat (first | exact .head | apply Pl.tail)); first | done | fail)) (hd : Nat.blt d n = true := by exact rfl) (hok : okB ops 1 r = true := by kernel_rfl)
    (k : WN P E n ops Q r ((d, v) :: env) L) : WB P E n ops Q ⟨some d, .load t x, ty, ps, af, gd⟩ true r env L := by
  refine w_lb (j := 0) hr hi hx ?_ hv hp hd hok k
  rw [ho, add_zero']
theorem w_lbA {t : TypeId} [hc : TAgg P t sz] {x : Operand} {a q : Addr} {w0 : World} {i : Nat} {xs : List α} {b : α} (hr : RowB w0 (some a) sz row xs) (hi : xs[i]? = some b) (hx : ev env x = some (.pointer (some q)) := by exact rfl)
    (ho : q = a.add (i * sz) := by exact rfl) (hrow : ∀ a, (row a).length = sz := by intro _; exact rfl) (hp : Pl (base w0) (vis r L) M := by ((repeat (first | exact .head | apply Pl.tail)); first | done | fail)) (hd : Nat.blt d n = true := by exact rfl) (hok : okB ops 1 r = true := by kernel_rfl)
    (k : WN P E n ops Q r ((d, .agg (row b).toArray) :: env) L) : WB P E n ops Q ⟨some d, .load t x, ty, ps, af, gd⟩ true r env L := by
  subst ho
  obtain ⟨b', hb, hcell⟩ := hr i b hi
  cases hb
  refine s_ (Ls := [base w0]) (fun a' w ha hs => ?_) (.cons hp .nil) hd hok k
  have h2 := run_loadCells_list (P := P) (w := w) (a.add (i * sz)) (row b) (fun j v hj => cell_base hs (hcell j v hj))
  rw [hrow] at h2
  simp [execOp, ha.eval hx, Instr.loadAt, Instr.sureAddr, loadVar, hc.agg, hc.size, h2]
end
end Go.SL
