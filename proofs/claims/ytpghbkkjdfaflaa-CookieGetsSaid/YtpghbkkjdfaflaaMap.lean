/- Maps that hold nothing, or one entry whose key is a number. -/
import Derived.Test.YtpghbkkjdfaflaaVec
import Derived.Laws.Strings
set_option linter.unusedVariables false
set_option linter.unusedSimpArgs false
namespace Go.SL
open Go.RowKit
attribute [local irreducible] WN WB WK Ctr Wn Tfin
section
variable {P : Program} {E : World} {n : Nat} {env : En} {d : Option Tmp} {ty : TypeId} {ps : String} {af : Array Edge} {gd : Option (Nat × Bool)} {L M : List SA}
theorem mkm {t : TypeId} : Does P E n ⟨d, .makeMap t none, ty, ps, af, gd⟩ env L (fun u L' => ∃ g : Nat, u = .map (some g) ∧ L' = blk g (.map #[] 0) :: L) := does_value fun a w ha hs => by
  refine ⟨_, _, { w with heap := w.heap.push (.map #[] 0) }, ?_, ⟨w.heap.size, rfl, rfl⟩, hs.new _ _ rfl rfl rfl rfl⟩
  simp [execOp, Instr.makeMap, newObj, Sem.run]
theorem setObj_blk {w : World} {g : Nat} {o o' : Obj} {L : List SA} (hn : ∀ c e f, o ≠ .cells c e f) (hs : Sat E (blk g o :: L) w) : ∃ w', (setObj g o').run P w = .ok () w' ∧ Sat E (blk g o' :: L) w' := by
  have hg := hs.blk
  refine ⟨{ w with heap := w.heap.setIfInBounds g o' }, ?_, ?_⟩
  · simp only [setObj, Sem.run, hg]
  · have hlt : g < w.heap.size := (Array.getElem?_eq_some_iff.1 hg).1
    refine hs.put _ _ rfl rfl rfl ?_ ?_
    · simp [Array.getElem?_setIfInBounds, hlt]
    · intro i hi x hx
      simp only [Array.getElem?_setIfInBounds]
      rw [if_neg (fun e => hi e.symm)]
      exact hx
theorem getObj_blk {w : World} {g : Nat} {o : Obj} {L : List SA} (hn : ∀ c e f, o ≠ .cells c e f) (hs : Sat E (blk g o :: L) w) : (getObj g).run P w = .ok o w := by
  have hg := hs.blk
  simp only [getObj, Sem.run, hg]
theorem ck {kt : TypeId} {j : IntKind} [hk : TInt P kt j] (b : Bool) (i : Int) (w : World) : (Instr.checkKey b 10000 kt (.int j i)).run P w = .ok () w := by
  show (Instr.checkKey b (9999 + 1) kt (.int j i)).run P w = .ok () w
  rw [Instr.checkKey]
  generalize 9999 = m
  simp [run_und hk.und]
theorem mu0 {t kt vt : TypeId} {j : IntKind} [hm : TMap P t kt vt] [hk : TInt P kt j] {x y z : Operand} {g : Nat} {i : Int} {v : Value} {c : Nat} (hx : ev env x = some (.map (some g))) (hy : ev env y = some (.int j i)) (hz : ev env z = some v) (hp : Pl (blk g (.map #[] c)) L M) :
    Does P E n ⟨d, .mapUpdate t x y z, ty, ps, af, gd⟩ env L (fun u L' => u = undef ∧ L' = blk g (.map #[{ key := .int j i, val := v, born := c }] (c + 1)) :: M) := does_skip fun a w ha hs => by
  have hs1 := hs.pl hp
  have hg := getObj_blk (P := P) (fun _ _ _ h => by cases h) hs1
  obtain ⟨w', hr, hs'⟩ := setObj_blk (P := P) (o' := .map #[{ key := .int j i, val := v, born := c }] (c + 1)) (fun _ _ _ h => by cases h) hs1
  refine ⟨_, w', ?_, ⟨rfl, rfl⟩, hs'⟩
  simp [execOp, ha.eval hx, ha.eval hy, ha.eval hz, Instr.mapUpdate, run_und hm.und, hg, ck, run_und hk.und, Instr.findKey, Instr.findNow, hr]
theorem lk1 {t kt vt : TypeId} {j : IntKind} [hm : TMap P t kt vt] [hk : TInt P kt j] {x y : Operand} {g : Nat} {i : Int} {v : Value} {c b : Nat} (hx : ev env x = some (.map (some g))) (hy : ev env y = some (.int j i)) :
    ValS P E n ⟨d, .lookup t x y true, ty, ps, af, gd⟩ env [blk g (.map #[{ key := .int j i, val := v, born := b }] c)] (.tuple #[v, .bool true]) := fun a w ha hs => by
  have hg := getObj_blk (P := P) (fun _ _ _ h => by cases h) hs
  simp [execOp, ha.eval hx, ha.eval hy, Instr.lookup, run_und hm.und, hg, ck, run_und hk.und, Instr.findKey, Instr.findNow, Instr.sameNow]
theorem rg {t kt vt : TypeId} [hm : TMap P t kt vt] {x : Operand} {g c : Nat} {es : Array MapEntry} (hx : ev env x = some (.map (some g))) (hp : Pl (blk g (.map es c)) L M) :
    Does P E n ⟨d, .range t x, ty, ps, af, gd⟩ env L (fun u L' => ∃ q : Nat, u = .pointer (some ⟨q, 0, none⟩) ∧ L' = blk q (.mapIter (some g) c #[] c) :: blk g (.map es c) :: M) := does_value fun a w ha hs => by
  have hs1 := hs.pl hp
  have hg := getObj_blk (P := P) (fun _ _ _ h => by cases h) hs1
  refine ⟨_, _, { w with heap := w.heap.push (.mapIter (some g) c #[] c) }, ?_, ⟨w.heap.size, rfl, rfl⟩, hs1.new _ _ rfl rfl rfl rfl⟩
  simp [execOp, ha.eval hx, Instr.range, run_und hm.und, hg, newObj, Sem.run]
theorem nx1 {x : Operand} {q g c b : Nat} {k v : Value} (hb : b < c) (hx : ev env x = some (.pointer (some ⟨q, 0, none⟩))) (hp : Pl (blk q (.mapIter (some g) c #[] c)) L M) {M' : List SA} (hp2 : Pl (blk g (.map #[{ key := k, val := v, born := b }] c)) M M') :
    Does P E n ⟨d, .next x false, ty, ps, af, gd⟩ env L (fun u L' => u = .tuple #[.bool true, k, v] ∧ L' = blk q (.mapIter (some g) c #[b] c) :: blk g (.map #[{ key := k, val := v, born := b }] c) :: M') := does_value fun a w ha hs => by
  have hs1 := hs.pl hp
  have hq := getObj_blk (P := P) (fun _ _ _ h => by cases h) hs1
  have hs2 : Sat E (blk g (.map #[{ key := k, val := v, born := b }] c) :: blk q (.mapIter (some g) c #[] c) :: M') w := hs1.pl (.tail hp2)
  have hg := getObj_blk (P := P) (fun _ _ _ h => by cases h) hs2
  have hs3 : Sat E (blk q (.mapIter (some g) c #[] c) :: blk g (.map #[{ key := k, val := v, born := b }] c) :: M') w := hs2.pl (.tail .head)
  have hcb : ¬ c ≤ b := by omega
  by_cases hf : (Question.mapNext 1).forced = true
  · obtain ⟨w', hr, hs'⟩ := setObj_blk (P := P) (o' := .mapIter (some g) c #[b] c) (fun _ _ _ h => by cases h) hs3
    refine ⟨_, _, w', ?_, ⟨rfl, rfl⟩, hs'⟩
    simp [execOp, ha.eval hx, Instr.next, hq, hg, hb, hcb, hf, hr]
  · obtain ⟨w', hr, hs'⟩ := setObj_blk (P := P) (o' := .mapIter (some g) c #[b] c) (fun _ _ _ h => by cases h) hs3.drew
    refine ⟨_, _, w', ?_, ⟨rfl, rfl⟩, hs'⟩
    simp [execOp, ha.eval hx, Instr.next, hq, hg, hb, hcb, hf, Question.cut, Nat.mod_one, hr]
theorem nx0 {x : Operand} {q g c b : Nat} {k v : Value} (hb : b < c) (hx : ev env x = some (.pointer (some ⟨q, 0, none⟩))) (hp : Pl (blk q (.mapIter (some g) c #[b] c)) L M) {M' : List SA} (hp2 : Pl (blk g (.map #[{ key := k, val := v, born := b }] c)) M M') :
    Does P E n ⟨d, .next x false, ty, ps, af, gd⟩ env L (fun u L' => u = .tuple #[.bool false] ∧ L' = L) := does_value fun a w ha hs => by
  have hs1 := hs.pl hp
  have hq := getObj_blk (P := P) (fun _ _ _ h => by cases h) hs1
  have hs2 : Sat E (blk g (.map #[{ key := k, val := v, born := b }] c) :: blk q (.mapIter (some g) c #[b] c) :: M') w := hs1.pl (.tail hp2)
  have hg := getObj_blk (P := P) (fun _ _ _ h => by cases h) hs2
  have hcb : ¬ c ≤ b := by omega
  by_cases hf : (Question.mapNext 1).forced = true
  · refine ⟨_, _, w, ?_, ⟨rfl, rfl⟩, hs⟩
    simp [execOp, ha.eval hx, Instr.next, hq, hg, hb, hcb, hf]
  · refine ⟨_, _, w.drew, ?_, ⟨rfl, rfl⟩, hs.drew⟩
    simp [execOp, ha.eval hx, Instr.next, hq, hg, hb, hcb, hf, Question.cut, Nat.mod_one]
theorem en1 {x : Operand} {q g c b : Nat} {k v : Value} (hx : ev env x = some (.pointer (some ⟨q, 0, none⟩))) :
    ValS P E n ⟨d, .entry x, ty, ps, af, gd⟩ env [blk q (.mapIter (some g) c #[b] c), blk g (.map #[{ key := k, val := v, born := b }] c)] (.tuple #[k, v]) := fun a w ha hs => by
  have hq := getObj_blk (P := P) (fun _ _ _ h => by cases h) hs
  have hg := getObj_blk (P := P) (fun _ _ _ h => by cases h) hs.tl
  simp [execOp, ha.eval hx, Instr.entry, hq, hg]
end
section
variable {P : Program} {E : World} {n : Nat} {env : En} {d : Nat} {ty : TypeId} {ps : String} {af : Array Edge} {gd : Option (Nat × Bool)} {ops : Array Oper} {Q : Exit → Act → World → Prop} {r : Rs} {L M : List SA}
theorem w_mkm {t : TypeId} (hd : Nat.blt d n = true := by exact rfl) (hok : okB ops 2 r = true := by kernel_rfl) (hk : ∀ g, kept r (blk g (.map #[] 0) :: L) := by intro _; (first | exact trivial | exact .inl rfl | exact rfl | (refine .inr ?_; (repeat (first | exact .nil | ((first | apply Sel.cons | apply Cut.cons); repeat (first | exact .head | apply Pl.tail)))); first | done | fail)))
    (k : ∀ g, WN P E n ops Q (adv r) ((d, .map (some g)) :: env) (blk g (.map #[] 0) :: L)) : WB P E n ops Q ⟨some d, .makeMap t none, ty, ps, af, gd⟩ true r env L :=
  do_ mkm hd hok fun v L' ⟨g, e1, e2⟩ => by subst e1 e2; exact ⟨hk g, k g⟩
theorem w_mu0 {t kt vt : TypeId} {j : IntKind} [hm : TMap P t kt vt] [hkk : TInt P kt j] {x y z : Operand} {g : Nat} {i : Int} {v : Value} {c : Nat} (hx : ev env x = some (.map (some g)) := by exact rfl) (hy : ev env y = some (.int j i) := by exact rfl) (hz : ev env z = some v := by exact rfl) (hp : Pl (blk g (.map #[] c)) L M := by ((repeat (first | exact .head | apply Pl.tail)); first | done | fail))
    (hok : okB ops 2 r = true := by kernel_rfl) (hk : kept r (blk g (.map #[{ key := .int j i, val := v, born := c }] (c + 1)) :: M) := by (first | exact trivial | exact .inl rfl | exact rfl | (refine .inr ?_; (repeat (first | exact .nil | ((first | apply Sel.cons | apply Cut.cons); repeat (first | exact .head | apply Pl.tail)))); first | done | fail))) (k : WN P E n ops Q (adv r) env (blk g (.map #[{ key := .int j i, val := v, born := c }] (c + 1)) :: M)) : WB P E n ops Q ⟨none, .mapUpdate t x y z, ty, ps, af, gd⟩ true r env L :=
  do0_ (mu0 hx hy hz hp) hok fun v L' ⟨e1, e2⟩ => by subst e1 e2; exact ⟨hk, k⟩
theorem w_lk1 {t kt vt : TypeId} {j : IntKind} [hm : TMap P t kt vt] [hkk : TInt P kt j] {x y : Operand} {g : Nat} {i : Int} {v : Value} {c b : Nat} (hx : ev env x = some (.map (some g)) := by exact rfl) (hy : ev env y = some (.int j i) := by exact rfl) (hp : Pl (blk g (.map #[{ key := .int j i, val := v, born := b }] c)) (vis r L) M := by ((repeat (first | exact .head | apply Pl.tail)); first | done | fail))
    (hd : Nat.blt d n = true := by exact rfl) (hok : okB ops 1 r = true := by kernel_rfl) (k : WN P E n ops Q r ((d, .tuple #[v, .bool true]) :: env) L) : WB P E n ops Q ⟨some d, .lookup t x y true, ty, ps, af, gd⟩ true r env L :=
  s_ (lk1 hx hy) (.cons hp .nil) hd hok k
theorem w_rg {t kt vt : TypeId} [hm : TMap P t kt vt] {x : Operand} {g c : Nat} {es : Array MapEntry} (hx : ev env x = some (.map (some g)) := by exact rfl) (hp : Pl (blk g (.map es c)) L M := by ((repeat (first | exact .head | apply Pl.tail)); first | done | fail))
    (hd : Nat.blt d n = true := by exact rfl) (hok : okB ops 2 r = true := by kernel_rfl) (hk : ∀ q, kept r (blk q (.mapIter (some g) c #[] c) :: blk g (.map es c) :: M) := by intro _; (first | exact trivial | exact .inl rfl | exact rfl | (refine .inr ?_; (repeat (first | exact .nil | ((first | apply Sel.cons | apply Cut.cons); repeat (first | exact .head | apply Pl.tail)))); first | done | fail)))
    (k : ∀ q, WN P E n ops Q (adv r) ((d, .pointer (some ⟨q, 0, none⟩)) :: env) (blk q (.mapIter (some g) c #[] c) :: blk g (.map es c) :: M)) : WB P E n ops Q ⟨some d, .range t x, ty, ps, af, gd⟩ true r env L :=
  do_ (rg hx hp) hd hok fun v L' ⟨q, e1, e2⟩ => by subst e1 e2; exact ⟨hk q, k q⟩
theorem w_nx1 {x : Operand} {q g c b : Nat} {k v : Value} {M' : List SA} (hx : ev env x = some (.pointer (some ⟨q, 0, none⟩)) := by exact rfl) (hp : Pl (blk q (.mapIter (some g) c #[] c)) L M := by ((repeat (first | exact .head | apply Pl.tail)); first | done | fail)) (hp2 : Pl (blk g (.map #[{ key := k, val := v, born := b }] c)) M M' := by ((repeat (first | exact .head | apply Pl.tail)); first | done | fail)) (hb : b < c := by omega)
    (hd : Nat.blt d n = true := by exact rfl) (hok : okB ops 2 r = true := by kernel_rfl) (hk : kept r (blk q (.mapIter (some g) c #[b] c) :: blk g (.map #[{ key := k, val := v, born := b }] c) :: M') := by (first | exact trivial | exact .inl rfl | exact rfl | (refine .inr ?_; (repeat (first | exact .nil | ((first | apply Sel.cons | apply Cut.cons); repeat (first | exact .head | apply Pl.tail)))); first | done | fail)))
    (kk : WN P E n ops Q (adv r) ((d, .tuple #[.bool true, k, v]) :: env) (blk q (.mapIter (some g) c #[b] c) :: blk g (.map #[{ key := k, val := v, born := b }] c) :: M')) : WB P E n ops Q ⟨some d, .next x false, ty, ps, af, gd⟩ true r env L :=
  do_ (nx1 hb hx hp hp2) hd hok fun v L' ⟨e1, e2⟩ => by subst e1 e2; exact ⟨hk, kk⟩
theorem w_nx0 {x : Operand} {q g c b : Nat} {k v : Value} {M' : List SA} (hx : ev env x = some (.pointer (some ⟨q, 0, none⟩)) := by exact rfl) (hp : Pl (blk q (.mapIter (some g) c #[b] c)) L M := by ((repeat (first | exact .head | apply Pl.tail)); first | done | fail)) (hp2 : Pl (blk g (.map #[{ key := k, val := v, born := b }] c)) M M' := by ((repeat (first | exact .head | apply Pl.tail)); first | done | fail)) (hb : b < c := by omega)
    (hd : Nat.blt d n = true := by exact rfl) (hok : okB ops 2 r = true := by kernel_rfl) (hk : kept r L := by (first | exact trivial | exact .inl rfl | exact rfl | (refine .inr ?_; (repeat (first | exact .nil | ((first | apply Sel.cons | apply Cut.cons); repeat (first | exact .head | apply Pl.tail)))); first | done | fail)))
    (kk : WN P E n ops Q (adv r) ((d, .tuple #[.bool false]) :: env) L) : WB P E n ops Q ⟨some d, .next x false, ty, ps, af, gd⟩ true r env L :=
  do_ (nx0 hb hx hp hp2) hd hok fun v L' ⟨e1, e2⟩ => by subst e1 e2; exact ⟨hk, kk⟩
theorem w_en1 {x : Operand} {q g c b : Nat} {k v : Value} {M' : List SA} (hx : ev env x = some (.pointer (some ⟨q, 0, none⟩)) := by exact rfl) (hp : Pl (blk q (.mapIter (some g) c #[b] c)) (vis r L) M := by ((repeat (first | exact .head | apply Pl.tail)); first | done | fail)) (hp2 : Pl (blk g (.map #[{ key := k, val := v, born := b }] c)) M M' := by ((repeat (first | exact .head | apply Pl.tail)); first | done | fail))
    (hd : Nat.blt d n = true := by exact rfl) (hok : okB ops 1 r = true := by kernel_rfl) (kk : WN P E n ops Q r ((d, .tuple #[k, v]) :: env) L) : WB P E n ops Q ⟨some d, .entry x, ty, ps, af, gd⟩ true r env L :=
  s_ (en1 hx) (.cons hp (.cons hp2 .nil)) hd hok kk
end
section
variable {P : Program} {E : World} {n : Nat} {env : En} {d : Nat} {ty : TypeId} {ps : String} {af : Array Edge} {gd : Option (Nat × Bool)} {ops : Array Oper} {Q : Exit → Act → World → Prop} {r : Rs} {L M : List SA}
/-- A call through a function value that bears arguments of its own. -/
theorem cfF {dd : Option Tmp} {f : FuncId} [hf : TFn P f] {x : Operand} {first cap : List Value} {as : List Operand} {ts : Array TypeId} {args : List Value} {pre : List SA} {Post : Value → List SA → Prop} {F : List SA} (hx : ev env x = some (.func (.func f) first.toArray cap.toArray)) (hsp : Ctr P f (first ++ args ++ cap) pre Post)
    (hargs : evs env as = some args) (hc : Cut L pre F) : Does P E n ⟨dd, .call { callee := .value x, args := as.toArray, argTypes := ts }, ty, ps, af, gd⟩ env L (fun v L' => ∃ L1, Post v L1 ∧ L' = L1 ++ F) :=
  call_go hsp hc fun a w ha => by
    have := evs_ok ha hargs
    simp [execOp, resolve, ha.eval hx, Deferred.ofValue, invoke, hf.go, this]
theorem w_gd {f : FuncId} [hf : TFn P f] {x : Operand} {first cap : List Value} {as : List Operand} {ts : Array TypeId} {args : List Value} {pre F L2 : List SA} {rv : Value} (hx : ev env x = some (.func (.func f) first.toArray cap.toArray)) (hsp : Ctr P f (first ++ args ++ cap) pre (fun v L' => v = rv ∧ L' = L2)) (hargs : evs env as = some args := by exact rfl) (hc : Cut L pre F := by ((repeat (first | exact .nil | ((first | apply Sel.cons | apply Cut.cons); repeat (first | exact .head | apply Pl.tail)))); first | done | fail)) (hd : Nat.blt d n = true := by exact rfl) (hok : okB ops 2 r = true := by kernel_rfl)
    (hk : kept r (L2 ++ F) := by (first | exact trivial | exact .inl rfl | exact rfl | (refine .inr ?_; (repeat (first | exact .nil | ((first | apply Sel.cons | apply Cut.cons); repeat (first | exact .head | apply Pl.tail)))); first | done | fail))) (k : WN P E n ops Q (adv r) ((d, rv) :: env) (L2 ++ F)) : WB P E n ops Q ⟨some d, .call { callee := .value x, args := as.toArray, argTypes := ts }, ty, ps, af, gd⟩ true r env L :=
  do_ (cfF hx hsp hargs hc) hd hok fun v L' ⟨L1, ⟨e1, e2⟩, e3⟩ => by subst e1 e2 e3; exact ⟨hk, k⟩
end
/-- The place of the first one that is so; -1: none is. -/
def fidx {α : Type} (pr : α → Bool) (xs : List α) : Int := match xs.findIdx? pr with
  | some i => i
  | none => -1
theorem fidx_hit {α : Type} (pr : α → Bool) (xs : List α) (i : Nat) (b : α) (hb : xs[i]? = some b) (h : pr b = true) (hno : ∀ a ∈ xs.take i, pr a = false) : fidx pr xs = i := by
  have e : xs.findIdx? pr = some i := by
    rw [List.findIdx?_eq_some_iff_getElem]
    obtain ⟨hlt, hb'⟩ := List.getElem?_eq_some_iff.1 hb
    refine ⟨hlt, by rw [hb']; exact h, fun j hj => ?_⟩
    have := hno xs[j] (List.mem_take_iff_getElem.2 ⟨j, by omega, rfl⟩)
    simp [this]
  unfold fidx
  rw [e]
theorem fidx_none {α : Type} (pr : α → Bool) (xs : List α) (h : ∀ a ∈ xs, pr a = false) : fidx pr xs = -1 := by
  have e : xs.findIdx? pr = none := by
    rw [List.findIdx?_eq_none_iff]
    exact h
  unfold fidx
  rw [e]
theorem fidx_any {α : Type} (pr : α → Bool) (xs : List α) : decide (fidx pr xs ≥ 0) = xs.any pr := by
  unfold fidx
  cases h : xs.findIdx? pr with
  | none =>
    rw [List.findIdx?_eq_none_iff] at h
    have : xs.any pr = false := by
      rw [List.any_eq_false]
      intro x hx
      simp [h x hx]
    rw [this]
    decide
  | some i =>
    rw [List.findIdx?_eq_some_iff_getElem] at h
    obtain ⟨hlt, hp, _⟩ := h
    have : xs.any pr = true := List.any_eq_true.2 ⟨xs[i], List.getElem_mem hlt, hp⟩
    rw [this]
    simp
/-- A contract over memory that is told of in other words. -/
theorem ctr_eqv {P : Program} {f : FuncId} {args : List Value} {pre pre' F : List SA} {Post : Value → List SA → Prop} (h1 : ∀ (E w : World) (R : SA), Sat E (pre' ++ [R]) w → Sat E (pre ++ (F ++ [R])) w) (hc : Ctr P f args pre Post) : Ctr P f args pre' (fun v L => ∃ L1, Post v L1 ∧ L = L1 ++ F) := by
  unfold Ctr at hc ⊢
  intro E w R hs
  refine Calls.mono' (hc E w (SL.all (F ++ [R])) (to_frame (h1 E w R hs))) fun e w' ⟨v, L', he, hP, hs'⟩ => ⟨v, L' ++ F, he, ⟨L', hP, rfl⟩, ?_⟩
  have := of_frame hs'
  rwa [List.append_assoc]
theorem ctr_post {P : Program} {f : FuncId} {args : List Value} {pre : List SA} {Post Post' : Value → List SA → Prop} (hc : Ctr P f args pre Post) (h : ∀ v L, Post v L → ∃ L', Post' v L' ∧ ∀ (E w : World) (R : SA), Sat E (L ++ [R]) w → Sat E (L' ++ [R]) w) : Ctr P f args pre Post' := by
  unfold Ctr at hc ⊢
  exact fun E w R hs => Calls.mono' (hc E w R hs) fun e w' ⟨v, L, he, hP, hs'⟩ => by
    obtain ⟨L', hP', hk⟩ := h v L hP
    exact ⟨v, L', he, hP', hk E w' R hs'⟩
/-! ### Bytes -/
def bytesOf (s : ByteArray) : List Int := s.data.toList.map fun b => (b.toNat : Int)
theorem bytesOf_length (s : ByteArray) : (bytesOf s).length = s.size := by simp [bytesOf]
theorem byt_bytesOf (s : ByteArray) : byt (bytesOf s) = s := by
  apply ByteArray.ext
  apply Array.ext'
  simp only [byt, bytesOf, List.map_map, List.toList_toArray]
  conv => rhs; rw [← List.map_id s.data.toList]
  congr 1
  funext b
  simp
def byteRow (x : Int) : List Value := [.int .u8 x]
theorem rowsL_bytes (l : List Int) : rowsL byteRow l = l.map (Value.int .u8) := by
  induction l with
  | nil => rfl
  | cons x l ih => rw [rowsL_cons, ih]; rfl
section
variable {P : Program} {E : World} {n : Nat} {env : En} {d : Nat} {ty : TypeId} {ps : String} {af : Array Edge} {gd : Option (Nat × Bool)} {ops : Array Oper} {Q : Exit → Act → World → Prop} {r : Rs} {L M : List SA}
theorem run_byt_nil {w : World} (c : Nat) : (Conv.bytesToString (.slice none 0 c)).run P w = .ok (.string (byt [])) w := by
  simp [Conv.bytesToString, byt]
  try rfl
theorem cvV {dd : Option Tmp} {t t' : TypeId} [ht : TByt P t] [ht' : TStr P t'] {x : Operand} {p : Option Addr} {m c : Nat} {e : TypeId} {l : List Int} (hx : ev env x = some (.slice p m c)) :
    ValS P E n ⟨dd, .convert t t' x, ty, ps, af, gd⟩ env [vec p m c e 1 (rowsL byteRow l)] (.string (byt l)) := fun a w ha hs => by
  obtain ⟨e', hu, hu'⟩ := ht.und
  have ho := vecOk hs
  have hlen := ho.len
  rw [rowsL_bytes, List.length_map] at hlen
  cases p with
  | none =>
    obtain ⟨rfl, rfl⟩ := ho.nil rfl
    have hl0 : l = [] := List.eq_nil_of_length_eq_zero (by omega)
    subst hl0
    have := run_byt_nil (P := P) (w := w) 0
    simp [execOp, ha.eval hx, convert, run_und hu, run_und ht'.und, run_und hu', this]
  | some q =>
    obtain ⟨g, pre, rest, e1, hr, hs2⟩ := ofVec hs
    subst e1
    have := run_byt (P := P) (w := w) ⟨g, pre.length, none⟩ m c l (by omega) (fun j x hj => by
      rw [add_pl]
      exact vec_cell hs (by rw [rowsL_bytes, List.getElem?_map, hj]; rfl))
    simp [execOp, ha.eval hx, convert, run_und hu, run_und ht'.und, run_und hu', this]
theorem w_cvV {t t' : TypeId} [ht : TByt P t] [ht' : TStr P t'] {x : Operand} {p : Option Addr} {m c : Nat} {e : TypeId} {l : List Int} (hx : ev env x = some (.slice p m c) := by exact rfl) (hp : Pl (vec p m c e 1 (rowsL byteRow l)) (vis r L) M := by ((repeat (first | exact .head | apply Pl.tail)); first | done | fail))
    (hd : Nat.blt d n = true := by exact rfl) (hok : okB ops 1 r = true := by kernel_rfl) (k : WN P E n ops Q r ((d, .string (byt l)) :: env) L) : WB P E n ops Q ⟨some d, .convert t t' x, ty, ps, af, gd⟩ true r env L :=
  s_ (cvV hx) (.cons hp .nil) hd hok k
/-- A string's bytes appended. -/
theorem w_apS {t e t2 : TypeId} {bytes : Nat} {z : Value} [ht : TSlc P t e] [he : TElem P e 1 bytes z] [hs2 : TStr P t2] {x y : Operand} {p : Option Addr} {m c : Nat} {l : List Int} {s : ByteArray}
    (hx : ev env x = some (.slice p m c) := by exact rfl) (hy : ev env y = some (.string s) := by exact rfl) (hp : Pl (vec p m c e 1 (rowsL byteRow l)) L M := by ((repeat (first | exact .head | apply Pl.tail)); first | done | fail)) (hzs : z.cells.size = 1 := by exact rfl)
    (hb : (m + s.size) * bytes ≤ 140737488355328 := by omega) (h63 : m + s.size ≤ 9223372036854775807 := by omega)
    (hd : Nat.blt d n = true := by exact rfl) (hok : okB ops 2 r = true := by kernel_rfl) (hk : ∀ q : Option Addr × Nat, kept r (vec q.1 (m + s.size) q.2 e 1 (rowsL byteRow (l ++ bytesOf s)) :: M) := by intro _; (first | exact trivial | exact .inl rfl | exact rfl | (refine .inr ?_; (repeat (first | exact .nil | ((first | apply Sel.cons | apply Cut.cons); repeat (first | exact .head | apply Pl.tail)))); first | done | fail)))
    (k' : ∀ p' c', WN P E n ops Q (adv r) ((d, .slice p' (m + s.size) c') :: env) (vec p' (m + s.size) c' e 1 (rowsL byteRow (l ++ bytesOf s)) :: M)) : WB P E n ops Q ⟨some d, .call { callee := .builtin .append, args := #[x, y], argTypes := #[t, t2] }, ty, ps, af, gd⟩ true r env L := by
  have e1 : rowsL byteRow (l ++ bytesOf s) = rowsL byteRow l ++ (s.data.toList.map fun b => Value.int .u8 b.toNat) := by
    rw [rowsL_app]
    congr 1
    rw [rowsL_bytes, bytesOf, List.map_map]
    rfl
  rw [e1] at k' hk
  refine w_ap srcS (fun u hu => ?_) (by simp) (.inl hs2.und) hx hy hp hzs hb h63 hd hok hk k'
  simp only [List.mem_map] at hu
  obtain ⟨b, _, rfl⟩ := hu
  rfl
/-- A conversion that changes nothing. -/
theorem wrapId (k : IntKind) (i : Int) (h : (match k with | .i64 => -9223372036854775808 ≤ i ∧ i ≤ 9223372036854775807 | .u64 => 0 ≤ i ∧ i ≤ 18446744073709551615 | .u32 => 0 ≤ i ∧ i ≤ 4294967295 | .u16 => 0 ≤ i ∧ i ≤ 65535 | .u8 => 0 ≤ i ∧ i ≤ 255 | _ => False)) : k.wrap i = i := by
  cases k <;> first | exact h.elim | (unfold IntKind.wrap; simp [IntKind.bits, IntKind.signed] at h ⊢; omega) | (rw [IntKind.wrap_i64]; omega)
theorem cvN {dd : Option Tmp} {t t' : TypeId} {k k' : IntKind} [hs : TInt P t k'] [ht : TInt P t' k] {x : Operand} {j : IntKind} {i : Int} (hx : ev env x = some (.int j i)) (h : (match k with | .i64 => -9223372036854775808 ≤ i ∧ i ≤ 9223372036854775807 | .u64 => 0 ≤ i ∧ i ≤ 18446744073709551615 | .u32 => 0 ≤ i ∧ i ≤ 4294967295 | .u16 => 0 ≤ i ∧ i ≤ 65535 | .u8 => 0 ≤ i ∧ i ≤ 255 | _ => False)) :
    Val P n ⟨dd, .convert t t' x, ty, ps, af, gd⟩ env (.int k i) := by
  have := cvI (P := P) (n := n) (d := dd) (ty := ty) (ps := ps) (af := af) (gd := gd) (t := t) (t' := t') hx
  rwa [wrapId k i h] at this
theorem w_cvn {t t' : TypeId} {v : Value} {x : Operand} (h : Val P n ⟨some d, .convert t t' x, ty, ps, af, gd⟩ env v := by exact cvN rfl (by constructor <;> omega))
    (hd : Nat.blt d n = true := by exact rfl) (hok : okB ops 0 r = true := by kernel_rfl) (k : WN P E n ops Q r ((d, v) :: env) L) : WB P E n ops Q ⟨some d, .convert t t' x, ty, ps, af, gd⟩ true r env L := v_ h hd hok k
theorem vnil_ {T : Act → World → Prop} {k : List Fr} {e : TypeId} {sz : Nat} (h : WK P E n T k env (vec none 0 0 e sz [] :: L)) : WK P E n T k env L := wk_imp (fun w hw => toNil hw) h
/-- A string against the empty one. -/
theorem toList_nil (s : ByteArray) : (s.toList == (⟨#[]⟩ : ByteArray).toList) = decide (s.size = 0) := by
  rw [Bool.eq_iff_iff]
  simp only [decide_eq_true_eq]
  have e : ∀ x : ByteArray, x.toList = x.data.toList := fun x => ByteArray.toList_eq x
  rw [e, e]
  simp only [beq_iff_eq]
  constructor
  · intro h
    have := congrArg List.length h
    simpa using this
  · intro h
    exact List.eq_nil_of_length_eq_zero (by simpa using h)
theorem bsE {dd : Option Tmp} {t t' : TypeId} {x y : Operand} {i : ByteArray} (hx : ev env x = some (.string i)) (hy : ev env y = some (.string ⟨#[]⟩)) : Val P n ⟨dd, .binOp .eql t x y t', ty, ps, af, gd⟩ env (.bool (decide (i.size = 0))) := by
  have := bs (P := P) (n := n) (d := dd) (ty := ty) (ps := ps) (af := af) (gd := gd) (op := .eql) (t := t) (t' := t') hx hy rfl
  rwa [toList_nil] at this
theorem bsN {dd : Option Tmp} {t t' : TypeId} {x y : Operand} {i : ByteArray} (hx : ev env x = some (.string i)) (hy : ev env y = some (.string ⟨#[]⟩)) : Val P n ⟨dd, .binOp .neq t x y t', ty, ps, af, gd⟩ env (.bool (!decide (i.size = 0))) := by
  have := bs (P := P) (n := n) (d := dd) (ty := ty) (ps := ps) (af := af) (gd := gd) (op := .neq) (t := t) (t' := t') hx hy rfl
  rwa [toList_nil] at this
theorem w_bsE {t t' : TypeId} {o : BinOp} {v : Value} {x y : Operand} (h : Val P n ⟨some d, .binOp o t x y t', ty, ps, af, gd⟩ env v := by first | exact bsE rfl rfl | exact bsN rfl rfl)
    (hd : Nat.blt d n = true := by exact rfl) (hok : okB ops 0 r = true := by kernel_rfl) (k : WN P E n ops Q r ((d, v) :: env) L) : WB P E n ops Q ⟨some d, .binOp o t x y t', ty, ps, af, gd⟩ true r env L := v_ h hd hok k
end
section
variable {P : Program} {E : World} {n : Nat} {env : En} {L M : List SA}
theorem RV.cellA {x : Nat} {t : TypeId} {sz : Nat} [hc : TAgg P t sz] {g : Nat} {l : List Value} {e : TypeId} {fr : Nat × Nat} {rs : List ResultVar} {vs : List Value} (h1 : lk env x = some (.pointer (some ⟨g, 0, none⟩)) := by exact rfl) (h2 : Pl (blk g (.cells l.toArray e fr)) L M := by ((repeat (first | exact .head | apply Pl.tail)); first | done | fail)) (h3 : l.length = sz := by exact rfl) (h4 : RV P env L rs vs) : RV P env L (.cell x t :: rs) (.agg l.toArray :: vs) := .cell h1 h2 h3 h4
theorem RV.cell1A {x : Nat} {t : TypeId} [hc : TCell P t] {g : Nat} {v : Value} {e : TypeId} {fr : Nat × Nat} {rs : List ResultVar} {vs : List Value} (h1 : lk env x = some (.pointer (some ⟨g, 0, none⟩)) := by exact rfl) (h2 : Pl (blk g (.cells #[v] e fr)) L M := by ((repeat (first | exact .head | apply Pl.tail)); first | done | fail)) (h4 : RV P env L rs vs) : RV P env L (.cell x t :: rs) (v :: vs) := .cell1 h1 h2 h4
/-- The end, its results found where they lie. -/
theorem e_rets {fn : Func} {rv : Value} {M : List SA} {R : SA} {k : List Fr} {L : List SA} {rs : List ResultVar} {vs : List Value} (hrs : fn.results = rs.toArray := by exact rfl) (hv : RV P env L rs vs := by first | exact (.tmp rfl .nil) | exact (.tmp rfl (.tmp rfl .nil)) | exact (.tmp rfl (.tmp rfl (.tmp rfl .nil))) | exact .nil | exact (.cellA (h4 := .nil)) | exact (.cellA (h4 := (.tmp rfl .nil))) | exact (.cellA (h4 := (.tmp rfl (.tmp rfl .nil)))) | exact (.cellA (h4 := (.tmp rfl (.tmp rfl (.tmp rfl .nil))))) | exact (.cellA (h4 := (.cellA (h4 := .nil)))) | exact (.cellA (h4 := (.cellA (h4 := (.tmp rfl .nil))))) | exact (.tmp rfl (.cellA (h4 := .nil))) | exact (.tmp rfl (.cellA (h4 := (.tmp rfl .nil)))) | exact (.tmp rfl (.cellA (h4 := (.cellA (h4 := .nil))))) | exact (.cellA (h4 := (.cellA (h4 := (.tmp rfl (.tmp rfl .nil)))))) | exact (.tmp rfl (.tmp rfl (.cellA (h4 := .nil)))) | exact (.cellA (h4 := (.cellA (h4 := (.tmp rfl (.cellA (h4 := .nil)))))))) (he : tup vs = rv := by exact rfl) (hs : Sel L (M ++ [R]) := by ((repeat (first | exact .nil | ((first | apply Sel.cons | apply Cut.cons); repeat (first | exact .head | apply Pl.tail)))); first | done | fail)) :
    WK P E n (Tfin P E fn (fun v L' => v = rv ∧ L' = M) R) (.code .ret :: k) env L := retWD_ hrs hv he hs
theorem e_retsP {fn : Func} {Post : Value → List SA → Prop} {R : SA} {k : List Fr} {L L' : List SA} {rs : List ResultVar} {vs : List Value} (hrs : fn.results = rs.toArray := by exact rfl) (hv : RV P env L rs vs := by first | exact (.tmp rfl .nil) | exact (.tmp rfl (.tmp rfl .nil)) | exact (.tmp rfl (.tmp rfl (.tmp rfl .nil))) | exact .nil | exact (.cellA (h4 := .nil)) | exact (.cellA (h4 := (.tmp rfl .nil))) | exact (.cellA (h4 := (.tmp rfl (.tmp rfl .nil)))) | exact (.cellA (h4 := (.tmp rfl (.tmp rfl (.tmp rfl .nil))))) | exact (.cellA (h4 := (.cellA (h4 := .nil)))) | exact (.cellA (h4 := (.cellA (h4 := (.tmp rfl .nil))))) | exact (.tmp rfl (.cellA (h4 := .nil))) | exact (.tmp rfl (.cellA (h4 := (.tmp rfl .nil)))) | exact (.tmp rfl (.cellA (h4 := (.cellA (h4 := .nil))))) | exact (.cellA (h4 := (.cellA (h4 := (.tmp rfl (.tmp rfl .nil)))))) | exact (.tmp rfl (.tmp rfl (.cellA (h4 := .nil)))) | exact (.cellA (h4 := (.cellA (h4 := (.tmp rfl (.cellA (h4 := .nil)))))))) (hP : Post (tup vs) L') (hs : Sel L (L' ++ [R]) := by ((repeat (first | exact .nil | ((first | apply Sel.cons | apply Cut.cons); repeat (first | exact .head | apply Pl.tail)))); first | done | fail)) :
    WK P E n (Tfin P E fn Post R) (.code .ret :: k) env L := retW_ hrs hv hP hs
end
end Go.SL
