/- Arrays: as slices of one's own; their values. -/
import Derived.Test.YtpghbkkjdfaflaaVe2
set_option linter.unusedVariables false
set_option linter.unusedSimpArgs false
namespace Go.SL
open Go.RowKit
attribute [local irreducible] WN WB WK Ctr Wn Tfin
section
variable {P : Program} {E : World} {n : Nat} {env : En} {d : Nat} {ty : TypeId} {ps : String} {af : Array Edge} {gd : Option (Nat × Bool)} {ops : Array Oper} {Q : Exit → Act → World → Prop} {r : Rs} {L M : List SA} {T : Act → World → Prop} {k : List Fr}
variable {α : Type} {row : α → List Value} {sz : Nat}
theorem blk_vec {w : World} {g m : Nat} {e : TypeId} {xs : List α} {cs : Array Value} (hcs : cs.toList = rowsL row xs) (hrow : ∀ a, (row a).length = sz) (hm : xs.length = m) (h1 : ∀ v ∈ rowsL row xs, v.oneCell' = true) (h : Sat E (blk g (.cells cs e (0, 0)) :: L) w) : Sat E (vec (some ⟨g, 0, none⟩) m m e sz (rowsL row xs) :: L) w := by
  have e1 : cs = ([] ++ rowsL row xs ++ []).toArray := by apply Array.ext'; rw [hcs]; simp
  rw [e1] at h
  exact toVec (pre := []) ⟨by rw [rows_length hrow, hm], Nat.le_refl _, fun h => (by cases h), h1⟩ (by simp) h
/-- A new array, of zeros: as a slice of one's own. -/
theorem w_alV {t e : TypeId} {m : Nat} {z : Array Value} [hz : TZero P t (.agg z)] [ht : TArr P t m e] (row : α → List Value) (x0 : α) (hzr : z.toList = rowsL row (List.replicate m x0) := by exact rfl) (hrow : ∀ a, (row a).length = sz := by intro _; exact rfl) (h1 : z.toList.all (·.oneCell') = true := by exact rfl)
    (hd : Nat.blt d n = true := by exact rfl) (hok : okB ops 2 r = true := by kernel_rfl) (hk : ∀ g, kept r (vec (some ⟨g, 0, none⟩) m m t sz (rowsL row (List.replicate m x0)) :: L) := by intro _; (first | exact trivial | exact .inl rfl | exact rfl | (refine .inr ?_; (repeat (first | exact .nil | ((first | apply Sel.cons | apply Cut.cons); repeat (first | exact .head | apply Pl.tail)))); first | done | fail)))
    (k : ∀ g, WN P E n ops Q (adv r) ((d, .pointer (some ⟨g, 0, none⟩)) :: env) (vec (some ⟨g, 0, none⟩) m m t sz (rowsL row (List.replicate m x0)) :: L)) : WB P E n ops Q ⟨some d, .alloc t, ty, ps, af, gd⟩ true r env L :=
  do_ (does_imp al (R' := fun v L' => ∃ g, v = .pointer (some ⟨g, 0, none⟩) ∧ L' = vec (some ⟨g, 0, none⟩) m m t sz (rowsL row (List.replicate m x0)) :: L) fun v L' w ⟨g, e1, e2⟩ hs => by
    subst e1 e2
    exact ⟨_, ⟨g, rfl, rfl⟩, blk_vec hzr hrow List.length_replicate (fun v hv => by rw [← hzr] at hv; exact List.all_eq_true.1 h1 v hv) hs⟩) hd hok fun v L' ⟨g, e1, e2⟩ => by subst e1 e2; exact ⟨hk g, k g⟩
/-- All of it. -/
theorem w_lvAll {t : TypeId} {q : Nat} [hc : TAgg P t q] {x : Operand} {g m c : Nat} {e : TypeId} {l : List Value} (hx : ev env x = some (.pointer (some ⟨g, 0, none⟩)) := by exact rfl) (hp : Pl (vec (some ⟨g, 0, none⟩) m c e sz l) (vis r L) M := by ((repeat (first | exact .head | apply Pl.tail)); first | done | fail)) (hl : l.length = q := by assumption)
    (hd : Nat.blt d n = true := by exact rfl) (hok : okB ops 1 r = true := by kernel_rfl) (k : WN P E n ops Q r ((d, .agg l.toArray) :: env) L) : WB P E n ops Q ⟨some d, .load t x, ty, ps, af, gd⟩ true r env L := by
  refine s_ (Ls := [vec (some ⟨g, 0, none⟩) m c e sz l]) (fun a w ha hs => ?_) (.cons hp .nil) hd hok k
  exact ldVA (j := 0) hx hl (fun i v hi => by rw [Nat.zero_add]; exact hi) a w ha hs
theorem stAll {t : TypeId} {q : Nat} [hz : TSize P t q] {dst : Option Tmp} {x y : Operand} {g m : Nat} {e : TypeId} {l l' : List Value} (hx : ev env x = some (.pointer (some ⟨g, 0, none⟩))) (hy : ev env y = some (.agg l'.toArray)) (hp : Pl (vec (some ⟨g, 0, none⟩) m m e sz l) L M)
    (hl : l'.length = l.length) (hq : l'.length = q) (h1 : ∀ v ∈ l', v.oneCell' = true) : Does P E n ⟨dst, .store t x y, ty, ps, af, gd⟩ env L (fun u L' => u = undef ∧ L' = vec (some ⟨g, 0, none⟩) m m e sz l' :: M) := does_skip fun a w ha hs => by
  have hs1 := hs.pl hp
  have ho := vecOk hs1
  have e1 : (Value.agg l'.toArray).cells.toList = l' := by simp [Value.cells]
  have h3 := ho.len
  obtain ⟨w', hr, hs'⟩ := vec_store (P := P) hs1 0 l' h1 (by omega) (l' := l') (m' := m) (Nat.le_refl _) (by omega) (fun rest hr => ⟨rest, by
    rw [Nat.zero_add, List.take_zero, List.nil_append, hl, List.drop_left]⟩) h1
  refine ⟨_, w', ?_, ⟨rfl, rfl⟩, hs'⟩
  have hsz : (Value.agg l'.toArray).cells.size = q := by rw [← Array.length_toList, e1, hq]
  simp [execOp, ha.eval hx, ha.eval hy, Instr.storeAt, Instr.sureAddr, storeVar, hz.size, hsz]
  have hr' : (storeCells ⟨g, 0, none⟩ l').run P w = .ok () w' := hr
  simp [Value.cells, hr']
theorem w_svAll {t : TypeId} {q : Nat} [hz : TSize P t q] {x y : Operand} {g m : Nat} {e : TypeId} {xs ys : List α} (hl : ys.length = xs.length) (hq : (rowsL row ys).length = q) (h1 : ∀ v ∈ rowsL row ys, v.oneCell' = true) (hrow : ∀ a, (row a).length = sz) (hx : ev env x = some (.pointer (some ⟨g, 0, none⟩)) := by exact rfl) (hy : ev env y = some (.agg (rowsL row ys).toArray) := by exact rfl) (hp : Pl (vec (some ⟨g, 0, none⟩) m m e sz (rowsL row xs)) L M := by ((repeat (first | exact .head | apply Pl.tail)); first | done | fail))
    (hok : okB ops 2 r = true := by kernel_rfl) (hk : kept r (vec (some ⟨g, 0, none⟩) m m e sz (rowsL row ys) :: M) := by (first | exact trivial | exact .inl rfl | exact rfl | (refine .inr ?_; (repeat (first | exact .nil | ((first | apply Sel.cons | apply Cut.cons); repeat (first | exact .head | apply Pl.tail)))); first | done | fail))) (k : WN P E n ops Q (adv r) env (vec (some ⟨g, 0, none⟩) m m e sz (rowsL row ys) :: M)) : WB P E n ops Q ⟨none, .store t x y, ty, ps, af, gd⟩ true r env L :=
  do0_ (stAll hx hy hp (by rw [rows_length hrow, rows_length hrow, hl]) hq h1) hok fun u L' h => by obtain ⟨rfl, rfl⟩ := h; exact ⟨hk, k⟩
/-- A result that is a whole array. -/
theorem e_vec {fn : Func} {rv : Value} {M : List SA} {R : SA} {k : List Fr} {L M' : List SA} {x : Nat} {t : TypeId} {q g m c : Nat} {e : TypeId} {l : List Value} [hc : TAgg P t q] (hrs : fn.results = #[.cell x t] := by exact rfl) (hx : lk env x = some (.pointer (some ⟨g, 0, none⟩)) := by exact rfl) (hp : Pl (vec (some ⟨g, 0, none⟩) m c e sz l) L M' := by ((repeat (first | exact .head | apply Pl.tail)); first | done | fail)) (hl : l.length = q := by assumption) (he : Value.agg l.toArray = rv := by exact rfl) (hs : Sel L (M ++ [R]) := by ((repeat (first | exact .nil | ((first | apply Sel.cons | apply Cut.cons); repeat (first | exact .head | apply Pl.tail)))); first | done | fail)) :
    WK P E n (Tfin P E fn (fun v L' => v = rv ∧ L' = M) R) (.code .ret :: k) env L := by
  unfold WK Tfin
  intro a w ha hw
  have h1 := ha.at_ x _ hx
  have h2 := run_loadCells_list (P := P) (w := w) ⟨g, 0, none⟩ l (fun j v hj => by rw [add_pl]; exact vec_cell (hw.pl hp) hj)
  rw [hl] at h2
  refine wp_ret (QK_ret.2 ⟨ha.defers, rv, M, ?_, ⟨rfl, rfl⟩, hw.sel hs⟩)
  subst he
  unfold results
  rw [hrs]
  simp [h1, asAddr, loadVar, hc.agg, hc.size, h2]
/-- An element of an array's value. -/
theorem ixA {dd : Option Tmp} {t e : TypeId} {m : Nat} [hs : TArr P t m e] [hc : TCell P e] {x y : Operand} {cs : Array Value} {kk : IntKind} {i : Int} {v : Value} (hx : ev env x = some (.agg cs)) (hy : ev env y = some (.int kk i)) (h0 : 0 ≤ i) (h1 : i < m) (hv : cs.toList[i.toNat]? = some v) : Val P n ⟨dd, .index t x y, ty, ps, af, gd⟩ env v := fun a w ha => by
  rw [Array.getElem?_toList] at hv
  simp [execOp, ha.eval hx, ha.eval hy, Instr.index, asIntOf, run_und hs.und, h0, h1, hc.size, part, hc.agg, hv]
theorem w_ixA {t e : TypeId} {m : Nat} [hs : TArr P t m e] [hc : TCell P e] {x y : Operand} {cs : Array Value} {kk : IntKind} {i : Int} {v : Value} (hx : ev env x = some (.agg cs) := by exact rfl) (hy : ev env y = some (.int kk i) := by exact rfl) (h0 : 0 ≤ i := by omega) (h1 : i < m := by omega) (hv : cs.toList[i.toNat]? = some v := by first | assumption | exact rfl)
    (hd : Nat.blt d n = true := by exact rfl) (hok : okB ops 0 r = true := by kernel_rfl) (k : WN P E n ops Q r ((d, v) :: env) L) : WB P E n ops Q ⟨some d, .index t x y, ty, ps, af, gd⟩ true r env L := v_ (ixA hx hy h0 h1 hv) hd hok k
/-- Each bit turned. -/
theorem unX {dd : Option Tmp} {t : TypeId} {x : Operand} {k : IntKind} {i : Int} (hx : ev env x = some (.int k i)) : Val P n ⟨dd, .unOp .xor t x, ty, ps, af, gd⟩ env (.int k (bits .xor k (if k.signed then -1 else k.max) i)) := fun a w ha => by
  simp [execOp, ha.eval hx, Op.unary, Op.intBits, bits]
theorem w_unX {t : TypeId} {x : Operand} {k : IntKind} {i : Int} (hx : ev env x = some (.int k i) := by exact rfl) (hd : Nat.blt d n = true := by exact rfl) (hok : okB ops 0 r = true := by kernel_rfl) (kk : WN P E n ops Q r ((d, .int k (bits .xor k (if k.signed then -1 else k.max) i)) :: env) L) : WB P E n ops Q ⟨some d, .unOp .xor t x, ty, ps, af, gd⟩ true r env L := v_ (unX hx) hd hok kk
/-- A slice's capacity. -/
theorem capL {dd : Option Tmp} {t e : TypeId} [hs : TSlc P t e] {x : Operand} {p : Option Addr} {l c : Nat} (hx : ev env x = some (.slice p l c)) : Val P n ⟨dd, .call { callee := .builtin .cap, args := #[x], argTypes := #[t] }, ty, ps, af, gd⟩ env (.int .i64 c) := fun a w ha => by
  simp [execOp, resolve, invoke, builtin, ha.eval hx, Builtin.cap_, run_und hs.und, goInt]
theorem w_cap {t e : TypeId} [hs : TSlc P t e] {x : Operand} {p : Option Addr} {l c : Nat} (hx : ev env x = some (.slice p l c) := by exact rfl) (hd : Nat.blt d n = true := by exact rfl) (hok : okB ops 0 r = true := by kernel_rfl) (k : WN P E n ops Q r ((d, .int .i64 c) :: env) L) : WB P E n ops Q ⟨some d, .call { callee := .builtin .cap, args := #[x], argTypes := #[t] }, ty, ps, af, gd⟩ true r env L := v_ (capL hx) hd hok k
/-- Cells copied into a slice of one's own, from place i on. -/
theorem cp_ {dd : Option Tmp} {t t2 e : TypeId} [ht : TSlc P t e] [hz : TSize P e sz] {x y : Operand} {g o m c i dl dc kk m' : Nat} {l l' : List Value} {q : Option Addr} {yv : Value} {news : List Value}
    (hx : ev env x = some (.slice q dl dc)) (hy : ev env y = some yv) (hp : Pl (vec (some ⟨g, o, none⟩) m c e sz l) L M) (hq : q = some ⟨g, o + i * sz, none⟩) (hsrc : Src P E L sz kk (min kk dl) yv news) (hn : news.length = min kk dl * sz) (h1 : ∀ v ∈ news, v.oneCell' = true)
    (hi : i * sz + news.length ≤ c * sz) (hm' : m' ≤ c) (hl' : l'.length = m' * sz) (he : ∀ rest : List Value, (c - m) * sz ≤ rest.length → ∃ rest', (l ++ rest).take (i * sz) ++ news ++ (l ++ rest).drop (i * sz + news.length) = l' ++ rest') (h1' : ∀ v ∈ l', v.oneCell' = true) :
    Does P E n ⟨dd, .call { callee := .builtin .copy, args := #[x, y], argTypes := #[t, t2] }, ty, ps, af, gd⟩ env L (fun u L' => u = .int .i64 (min kk dl : Nat) ∧ L' = vec (some ⟨g, o, none⟩) m' c e sz l' :: M) := does_value fun a w ha hs => by
  subst hq
  obtain ⟨q1, q2⟩ := hsrc w hs
  obtain ⟨w', hst, hs'⟩ := vec_store (P := P) (hs.pl hp) (i * sz) news h1 hi hm' hl' he h1'
  refine ⟨_, _, w', ?_, ⟨rfl, rfl⟩, hs'⟩
  have e1 : Nat.min kk dl = min kk dl := rfl
  simp [execOp, resolve, invoke, builtin, ha.eval hx, ha.eval hy, Builtin.copy_, run_und ht.und, q1, hz.size, e1, q2, hst, goInt]
end
end Go.SL
