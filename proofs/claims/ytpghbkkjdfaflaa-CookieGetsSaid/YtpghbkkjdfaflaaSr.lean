/- The rules of code over assertions: a statement of Go's a rule, an operation a step. -/
import Derived.Test.YtpghbkkjdfaflaaSl
import Derived.Test.YtpghbkkjdfaflaaWLast
set_option linter.unusedVariables false
set_option linter.unusedSimpArgs false
namespace Go.SL

/-- The n-th of a list. -/
def nth {α : Type} : List α → Nat → Option α
  | [], _ => none
  | x :: _, 0 => some x
  | _ :: l, k + 1 => nth l k
theorem nth_eq {α : Type} : ∀ (l : List α) (i : Nat), l[i]? = nth l i
  | [], i => by cases i <;> rfl
  | x :: l, 0 => rfl
  | x :: l, i + 1 => by rw [List.getElem?_cons_succ]; exact nth_eq l i
/-- A list with another element at a place. -/
def setN {α : Type} : List α → Nat → α → Option (List α)
  | [], _, _ => none
  | _ :: l, 0, v => some (v :: l)
  | x :: l, i + 1, v => match setN l i v with
    | some m => some (x :: m)
    | none => none
theorem setN_eq {α : Type} : ∀ {l m : List α} {i : Nat} {v : α}, setN l i v = some m → l.set i v = m ∧ i < l.length
  | [], _, _, _, h => by simp [setN] at h
  | _ :: l, _, 0, v, h => by simp [setN] at h; subst h; exact ⟨rfl, by simp⟩
  | x :: l, m, i + 1, v, h => by
    simp only [setN] at h
    cases hs : setN l i v with
    | none => rw [hs] at h; cases h
    | some m' =>
      rw [hs] at h
      cases h
      obtain ⟨h1, h2⟩ := setN_eq hs
      exact ⟨by simp [h1], by simp; exact h2⟩

/-! ### 1. What is known of a frame's slots -/
abbrev En := List (Nat × Value)
def lk : En → Nat → Option Value
  | [], _ => none
  | (y, v) :: r, x => if x = y then some v else lk r x
structure EnvOk (n : Nat) (env : En) (a : Act) : Prop where
  size : a.tmps.size = n
  defers : a.defers = []
  at_ : ∀ x v, lk env x = some v → a.tmps[x]? = some v
def ev (env : En) : Operand → Option Value
  | .tmp t => lk env t
  | .const v => some v
  | .global g => some (.pointer (some ⟨g, 0, none⟩))
  | .func f => some (.func (.func f) #[] #[])
theorem EnvOk.eval {n : Nat} {env : En} {a : Act} (h : EnvOk n env a) {x : Operand} {v : Value} (hx : ev env x = some v) : a.eval x = v := by
  cases x with
  | tmp t =>
    have := h.at_ t v hx
    simp [Act.eval, this]
  | const u => simpa [ev, Act.eval] using hx
  | global g => simpa [ev, Act.eval] using hx
  | func f => simpa [ev, Act.eval] using hx
def dstOk (n : Nat) : Option Tmp → Bool
  | none => true
  | some d => Nat.blt d n
def put (env : En) : Option Tmp → Value → En
  | none, _ => env
  | some d, v => (d, v) :: env
theorem EnvOk.put {n : Nat} {env : En} {a : Act} (h : EnvOk n env a) {dst : Option Tmp} (hd : dstOk n dst = true) (v : Value) : EnvOk n (put env dst v) (a.put dst v) := by
  cases dst with
  | none => exact h
  | some d =>
    have hlt : d < a.tmps.size := by rw [h.size]; exact Nat.le_of_ble_eq_true hd
    refine ⟨by simp [Act.put, h.size], by simp [Act.put, h.defers], fun x u hx => ?_⟩
    simp only [SL.put, lk] at hx
    simp only [Act.put]
    by_cases e : x = d
    · subst e
      rw [if_pos rfl] at hx
      cases hx
      simp [Array.getElem?_setIfInBounds, hlt]
    · rw [if_neg e] at hx
      rw [Array.getElem?_setIfInBounds_ne (Ne.symm e)]
      exact h.at_ x u hx
theorem EnvOk.weak {n : Nat} {env env' : En} {a : Act} (h : EnvOk n env a) (k : ∀ x v, lk env' x = some v → lk env x = some v) : EnvOk n env' a :=
  ⟨h.size, h.defers, fun x v hx => h.at_ x v (k x v hx)⟩
/-- The slots of a list, as they are known. -/
def keep (env : En) : List Nat → En
  | [] => []
  | x :: l => match lk env x with
    | some v => (x, v) :: keep env l
    | none => keep env l
theorem keep_ok {env : En} : ∀ {l : List Nat} {x : Nat} {v : Value}, lk (keep env l) x = some v → lk env x = some v
  | [], _, _, h => by simp [keep, lk] at h
  | y :: l, x, v, h => by
    simp only [keep] at h
    cases hy : lk env y with
    | none => rw [hy] at h; exact keep_ok h
    | some u =>
      rw [hy] at h
      simp only [lk] at h
      by_cases e : x = y
      · subst e; rw [if_pos rfl] at h; cases h; exact hy
      · rw [if_neg e] at h; exact keep_ok h
def envOf : Nat → List Value → En
  | _, [] => []
  | k, v :: l => (k, v) :: envOf (k + 1) l
theorem envOf_ok : ∀ {l : List Value} {k x : Nat} {v : Value}, lk (envOf k l) x = some v → k ≤ x ∧ l[x - k]? = some v
  | [], _, _, _, h => by simp [envOf, lk] at h
  | u :: l, k, x, v, h => by
    simp only [envOf, lk] at h
    by_cases e : x = k
    · subst e; rw [if_pos rfl] at h; cases h; simp
    · rw [if_neg e] at h
      obtain ⟨h1, h2⟩ := envOf_ok h
      refine ⟨by omega, ?_⟩
      have : x - k = (x - (k + 1)) + 1 := by omega
      rw [this, List.getElem?_cons_succ]
      exact h2

section
variable {P : Program} {E : World} {n : Nat}

/-! ### 2. What an operation does -/
/-- It yields a value, whatever the world, which stays. -/
def Val (P : Program) (n : Nat) (o : Oper) (env : En) (v : Value) : Prop := ∀ a w, EnvOk n env a → (execOp a.eval o).run P w = .ok (.value v) w
/-- It yields a value in a world that is told of; which stays. -/
def ValS (P : Program) (E : World) (n : Nat) (o : Oper) (env : En) (Ls : List SA) (v : Value) : Prop := ∀ a w, EnvOk n env a → Sat E Ls w → (execOp a.eval o).run P w = .ok (.value v) w
/-- It does something to the world. -/
def Does (P : Program) (E : World) (n : Nat) (o : Oper) (env : En) (L : List SA) (R : Value → List SA → Prop) : Prop :=
  ∀ a w, EnvOk n env a → Sat E L w → ∀ (next : Act → World → Prop) (Q : Exit → Act → World → Prop), (∀ v L' w', R v L' → Sat E L' w' → next (a.put o.dst v) w') → o.wp P a w next Q
theorem Val.vals {o : Oper} {env : En} {v : Value} {Ls : List SA} (h : Val P n o env v) : ValS P E n o env Ls v := fun a w ha _ => h a w ha
theorem ValS.does {o : Oper} {env : En} {v : Value} {L Ls : List SA} (h : ValS P E n o env Ls v) (hs : Sel L Ls) : Does P E n o env L (fun v' L' => v' = v ∧ L' = L) := by
  intro a w ha hw next Q hk
  unfold Oper.wp
  rw [h a w ha (hw.sel hs)]
  exact hk v L w ⟨rfl, rfl⟩ hw
/-- Of an operation's run. -/
theorem does_value {o : Oper} {env : En} {L : List SA} {R : Value → List SA → Prop}
    (h : ∀ a w, EnvOk n env a → Sat E L w → ∃ v L' w', (execOp a.eval o).run P w = .ok (.value v) w' ∧ R v L' ∧ Sat E L' w') : Does P E n o env L R := by
  intro a w ha hw next Q hk
  obtain ⟨v, L', w', hr, hR, hs⟩ := h a w ha hw
  unfold Oper.wp
  rw [hr]
  exact hk v L' w' hR hs
theorem does_skip {o : Oper} {env : En} {L : List SA} {R : Value → List SA → Prop}
    (h : ∀ a w, EnvOk n env a → Sat E L w → ∃ L' w', (execOp a.eval o).run P w = .ok .skip w' ∧ R undef L' ∧ Sat E L' w') : Does P E n o env L R := by
  intro a w ha hw next Q hk
  obtain ⟨L', w', hr, hR, hs⟩ := h a w ha hw
  unfold Oper.wp
  rw [hr]
  exact hk undef L' w' hR hs

/-! ### 3. Is it wanted? -/
def Wn (n : Nat) (ops : Array Oper) (env : En) (o : Oper) (b : Bool) : Prop := ∀ a, EnvOk n env a → Region.wanted o (yielded ops a.tmps) = b
theorem wn_none {ops : Array Oper} {env : En} {o : Oper} (h : o.guard = none) : Wn n ops env o true := fun a _ => by simp [Region.wanted, h]
theorem yielded_bool {ops : Array Oper} {env : En} {a : Act} {j : Nat} {oj : Oper} {d : Nat} {b : Bool} (ha : EnvOk n env a) (hj : ops[j]? = some oj) (hd : oj.dst = some d) (hl : lk env d = some (.bool b)) : yielded ops a.tmps j = some b := by
  have := ha.at_ d _ hl
  unfold yielded
  simp [hj, hd, this]
theorem wn_yes {ops : Array Oper} {env : En} {o oj : Oper} {j d : Nat} {b want : Bool} (hg : o.guard = some (j, want)) (hj : nth ops.toList j = some oj) (hd : oj.dst = some d) (hl : lk env d = some (.bool b)) (hb : b = want) : Wn n ops env o true := fun a ha => by
  rw [← nth_eq, Array.getElem?_toList] at hj
  simp [Region.wanted, hg, yielded_bool ha hj hd hl, hb]
theorem wn_no {ops : Array Oper} {env : En} {o oj : Oper} {j d : Nat} {b want : Bool} (hg : o.guard = some (j, want)) (hj : nth ops.toList j = some oj) (hd : oj.dst = some d) (hl : lk env d = some (.bool b)) (hb : b = !want) : Wn n ops env o false := fun a ha => by
  rw [← nth_eq, Array.getElem?_toList] at hj
  simp [Region.wanted, hg, yielded_bool ha hj hd hl, hb]
theorem wn_undef {ops : Array Oper} {env : En} {o oj : Oper} {j d : Nat} {want : Bool} (hg : o.guard = some (j, want)) (hj : nth ops.toList j = some oj) (hd : oj.dst = some d) (hl : lk env d = some undef) : Wn n ops env o false := fun a ha => by
  rw [← nth_eq, Array.getElem?_toList] at hj
  have := ha.at_ d _ hl
  unfold Region.wanted yielded
  simp [hg, hj, hd, this, undef]

/-! ### 4. A region's operations, one behind the other: in the text's order, or (draw) in whatever order the edges allow -/
open Go.Proofs.YtpghbkkjdfaflaaW.PrintLast (wpAnyLast)
/-- An order in which a region is gone through; where two may come up that both do something: both orders. -/
inductive Pn where
  | nil
  | cons (j : Nat) (p : Pn)
  | two (j1 : Nat) (p1 : Pn) (j2 : Nat) (p2 : Pn)
  | three (j1 : Nat) (p1 : Pn) (j2 : Nat) (p2 : Pn) (j3 : Nat) (p3 : Pn)
/-- What stands behind an operation. draw: in whatever order; Ls: what is read, and kept by all but the operations of ds; tail: behind one of these. -/
inductive Rs where
  | plain (rest : List Oper)
  | draw (Ls : List SA) (ds : List Nat) (fuel : Nat) (b : Array Bool) (i : Nat) (pi : Pn)
  | tail (Ls : List SA) (ds : List Nat) (fuel : Nat) (b : Array Bool) (i : Nat) (pi : Pn)
  | fork (Ls : List SA) (ds : List Nat) (fuel : Nat) (b : Array Bool) (i : Nat) (pi : Pn)
def WN (P : Program) (E : World) (n : Nat) (ops : Array Oper) (Q : Exit → Act → World → Prop) (r : Rs) (env : En) (L : List SA) : Prop :=
  match r with
  | .plain rest => ∀ a w, EnvOk n env a → Sat E L w → wpList P ops Q rest a w
  | .draw Ls ds fuel b i _ | .fork Ls ds fuel b i _ => ∀ a w, EnvOk n env a → Sat E L w → Sat E Ls w → wpAnyLast P .any ops Q (Sat E Ls) ds fuel (b.setIfInBounds i true) a w
  | .tail Ls ds fuel b i _ => ∀ a w, EnvOk n env a → Sat E L w → wpAnyLast P .any ops Q (Sat E Ls) ds fuel (b.setIfInBounds i true) a w
def WB (P : Program) (E : World) (n : Nat) (ops : Array Oper) (Q : Exit → Act → World → Prop) (o : Oper) (wn : Bool) (r : Rs) (env : En) (L : List SA) : Prop :=
  (∀ c a w, Q (.panic c) a w → False) → (wn = true → ∀ a, EnvOk n env a → Region.wanted o (yielded ops a.tmps) = true) →
  match r with
  | .plain rest => ∀ a w, EnvOk n env a → Sat E L w → wpList P ops Q (o :: rest) a w
  | .draw Ls ds fuel b i _ => ops[i]? = some o → ∀ a w, EnvOk n env a → Sat E L w → Sat E Ls w → wpAnyLast P .any ops Q (Sat E Ls) ds (fuel + 1) b a w
  | .tail Ls ds fuel b i _ => ops[i]? = some o → ∀ a w, EnvOk n env a → Sat E L w → wpAnyLast P .any ops Q (Sat E Ls) ds (fuel + 1) b a w
  | .fork Ls ds fuel b i _ => ops[i]? = some o → ∀ a w, EnvOk n env a → Sat E L w → Sat E Ls w → wpOp P ops Q i (fun a' w' => (i ∉ ds → Sat E Ls w → Sat E Ls w') ∧ wpAnyLast P .any ops Q (Sat E Ls) ds fuel (b.setIfInBounds i true) a' w') a w
/-- May it be taken now? k: 0 a value, 1 a reading, 2 whatever else. -/
def okB (ops : Array Oper) : Nat → Rs → Bool
  | _, .plain _ | _, .fork .. => true
  | 0, .draw _ _ _ b i _ | 0, .tail _ _ _ b i _ => Proofs.YtpghbkkjdfaflaaW.PrintLast.anyB .any ops b (b.setIfInBounds i true) i
  | 1, .draw _ ds _ b i _ => Proofs.YtpghbkkjdfaflaaW.PrintLast.takeB .any ops ds b (b.setIfInBounds i true) i
  | 2, .draw _ _ _ b i _ => Proofs.YtpghbkkjdfaflaaW.PrintLast.readyB .any ops b (b.setIfInBounds i true) i
  | 2, .tail _ ds _ b i _ => ds.contains i && Proofs.YtpghbkkjdfaflaaW.PrintLast.readyB .any ops b (b.setIfInBounds i true) i
  | _, _ => false
/-- What may be read. -/
def vis : Rs → List SA → List SA
  | .plain _, L => L
  | .draw Ls .., _ => Ls
  | .fork .., L => L
  | .tail .., _ => []
/-- Behind an operation that does something. -/
def adv : Rs → Rs
  | .plain rest => .plain rest
  | .draw Ls ds fuel b i pi => if ds.contains i then .tail Ls ds fuel b i pi else .draw Ls ds fuel b i pi
  | .fork Ls ds fuel b i pi => if ds.contains i then .tail Ls ds fuel b i pi else .draw Ls ds fuel b i pi
  | .tail Ls ds fuel b i pi => .tail Ls ds fuel b i pi
def kept : Rs → List SA → Prop
  | .plain _, _ => True
  | .draw Ls ds _ _ i _, L | .fork Ls ds _ _ i _, L => ds.contains i = true ∨ Sel L Ls
  | .tail _ ds _ _ i _, _ => ds.contains i = true
section
variable {ops : Array Oper} {Q : Exit → Act → World → Prop} {o : Oper} {r : Rs} {env : En} {L Ls : List SA} {v : Value}
open Go.Proofs.YtpghbkkjdfaflaaW.PrintLast
theorem wb_val (h : Val P n o env v) (hd : dstOk n o.dst = true) (hok : okB ops 0 r = true) (k : WN P E n ops Q r (put env o.dst v) L) : WB P E n ops Q o true r env L := by
  intro hp hw
  cases r with
  | plain rest =>
    intro a w ha hs
    refine wpList_step fun K hK => ?_
    rw [if_pos (hw rfl a ha)]
    unfold Oper.wp
    rw [h a w ha]
    exact hK _ _ (k _ _ (ha.put hd v) hs)
  | draw Ls ds fuel b i pi =>
    intro hi a w ha hs hS
    exact pure_ _ hi rfl hok (fun c a w hq => (hp c _ _ hq).elim) (.inl ⟨hw rfl a ha, fun w' => h a w' ha⟩) rfl (k _ _ (ha.put hd v) hs hS)
  | tail Ls ds fuel b i pi =>
    intro hi a w ha hs
    exact pure_ _ hi rfl hok (fun c a w hq => (hp c _ _ hq).elim) (.inl ⟨hw rfl a ha, fun w' => h a w' ha⟩) rfl (k _ _ (ha.put hd v) hs)
  | fork Ls ds fuel b i pi =>
    intro hi a w ha hs hS
    refine Yields.wpOp hi (.inl ⟨hw rfl a ha, fun w' => h a w' ha⟩) ⟨fun _ h => h, k _ _ (ha.put hd v) hs hS⟩
theorem wb_off (h : ∀ a, EnvOk n env a → Region.wanted o (yielded ops a.tmps) = false) (hd : dstOk n o.dst = true) (hok : okB ops 0 r = true) (k : WN P E n ops Q r (put env o.dst undef) L) : WB P E n ops Q o false r env L := by
  intro hp _
  cases r with
  | plain rest =>
    intro a w ha hs
    refine wpList_step fun K hK => ?_
    rw [if_neg (by rw [h a ha]; simp)]
    exact hK _ _ (k _ _ (ha.put hd undef) hs)
  | draw Ls ds fuel b i pi =>
    intro hi a w ha hs hS
    exact pure_ _ hi rfl hok (fun c a w hq => (hp c _ _ hq).elim) (.inr ⟨h a ha, rfl⟩) rfl (k _ _ (ha.put hd undef) hs hS)
  | tail Ls ds fuel b i pi =>
    intro hi a w ha hs
    exact pure_ _ hi rfl hok (fun c a w hq => (hp c _ _ hq).elim) (.inr ⟨h a ha, rfl⟩) rfl (k _ _ (ha.put hd undef) hs)
  | fork Ls ds fuel b i pi =>
    intro hi a w ha hs hS
    refine Yields.wpOp hi (.inr ⟨h a ha, rfl⟩) ⟨fun _ h => h, k _ _ (ha.put hd undef) hs hS⟩
theorem wb_read (h : ValS P E n o env Ls v) (hs : Sel (vis r L) Ls) (hd : dstOk n o.dst = true) (hok : okB ops 1 r = true) (k : WN P E n ops Q r (put env o.dst v) L) : WB P E n ops Q o true r env L := by
  intro hp hw
  cases r with
  | plain rest =>
    intro a w ha hw'
    refine wpList_step fun K hK => ?_
    rw [if_pos (hw rfl a ha)]
    unfold Oper.wp
    rw [h a w ha (hw'.sel hs)]
    exact hK _ _ (k _ _ (ha.put hd v) hw')
  | draw Lr ds fuel b i pi =>
    intro hi a w ha hw' hS
    exact take_ _ hi rfl hok (fun c a w hq => (hp c _ _ hq).elim) (.inl ⟨hw rfl a ha, fun w' hS' => h a w' ha (hS'.sel hs)⟩) hS rfl (k _ _ (ha.put hd v) hw' hS)
  | tail Lr ds fuel b i pi => simp [okB] at hok
  | fork Lr ds fuel b i pi =>
    intro hi a w ha hw' hS
    refine YieldsIf.wpOp (S := Sat E L) hi (.inl ⟨hw rfl a ha, fun w' hS' => h a w' ha (hS'.sel hs)⟩) hw' ⟨fun _ h => h, k _ _ (ha.put hd v) hw' hS⟩
theorem wb_do {R : Value → List SA → Prop} (h : Does P E n o env L R) (hd : dstOk n o.dst = true) (hok : okB ops 2 r = true) (k : ∀ v L', R v L' → kept r L' ∧ WN P E n ops Q (adv r) (put env o.dst v) L') : WB P E n ops Q o true r env L := by
  intro hp hw
  cases r with
  | plain rest =>
    intro a w ha hs
    refine wpList_step fun K hK => ?_
    rw [if_pos (hw rfl a ha)]
    exact h a w ha hs _ _ fun v L' w' hR hs' => hK _ _ ((k v L' hR).2 _ _ (ha.put hd v) hs')
  | draw Lr ds fuel b i pi =>
    intro hi a w ha hs hS
    by_cases hin : ds.contains i = true
    · refine last_ _ hi rfl hok (by simpa using hin) fun K hK => ?_
      rw [if_pos (hw rfl a ha)]
      refine h a w ha hs _ _ fun v L' w' hR hs' => hK _ _ ?_
      have k2 := (k v L' hR).2
      simp only [adv, hin, if_true] at k2
      exact k2 _ _ (ha.put hd v) hs'
    · refine one_ _ hi rfl hok (by simpa using hin) fun K hK => ?_
      rw [if_pos (hw rfl a ha)]
      refine h a w ha hs _ _ fun v L' w' hR hs' => ?_
      obtain ⟨k1, k2⟩ := k v L' hR
      simp only [adv, hin, if_false] at k2
      have k3 : Sel L' Lr := by
        rcases k1 with k1 | k1
        · exact absurd k1 hin
        · exact k1
      exact hK _ _ (hs'.sel k3) fun hS' => k2 _ _ (ha.put hd v) hs' hS'
  | tail Lr ds fuel b i pi =>
    intro hi a w ha hs
    simp only [okB, Bool.and_eq_true] at hok
    refine last_ _ hi rfl hok.2 (by simpa using hok.1) fun K hK => ?_
    rw [if_pos (hw rfl a ha)]
    exact h a w ha hs _ _ fun v L' w' hR hs' => hK _ _ ((k v L' hR).2 _ _ (ha.put hd v) hs')
  | fork Lr ds fuel b i pi =>
    intro hi a w ha hs hS
    refine wpOp_step hi fun K hK => ?_
    rw [if_pos (hw rfl a ha)]
    refine h a w ha hs _ _ fun v L' w' hR hs' => ?_
    obtain ⟨k1, k2⟩ := k v L' hR
    by_cases hin : ds.contains i = true
    · simp only [adv, hin, if_true] at k2
      exact hK _ _ ⟨fun hn => absurd (by simpa using hin) hn, k2 _ _ (ha.put hd v) hs'⟩
    · simp only [adv, hin, if_false] at k2
      have k3 : Sel L' Lr := by
        rcases k1 with k1 | k1
        · exact absurd k1 hin
        · exact k1
      exact hK _ _ ⟨fun _ _ => hs'.sel k3, k2 _ _ (ha.put hd v) hs' (hs'.sel k3)⟩
/-- The next operation. -/
theorem nx_ {rest : List Oper} (hp : ∀ c a w, Q (.panic c) a w → False) (h : WB P E n ops Q o o.guard.isNone (.plain rest) env L) : WN P E n ops Q (.plain (o :: rest)) env L :=
  fun a w ha hs => h hp (fun hg a _ => by cases hq : o.guard <;> simp [hq] at hg; simp [Region.wanted, hq]) a w ha hs
end
section
variable {ops : Array Oper} {Q : Exit → Act → World → Prop} {o : Oper} {r : Rs} {env : En} {L M : List SA}
theorem nxD_ {Ls : List SA} {ds : List Nat} {pi : Pn} {fuel i j : Nat} {b : Array Bool} (hp : ∀ c a w, Q (.panic c) a w → False) (hj : nth ops.toList j = some o) (h : WB P E n ops Q o o.guard.isNone (.draw Ls ds fuel (b.setIfInBounds i true) j pi) env L) : WN P E n ops Q (.draw Ls ds (fuel + 1) b i (.cons j pi)) env L :=
  fun a w ha hs hS => h hp (fun hg a _ => by cases hq : o.guard <;> simp [hq] at hg; simp [Region.wanted, hq]) (by rw [← nth_eq, Array.getElem?_toList] at hj; exact hj) a w ha hs hS
theorem nxT_ {Ls : List SA} {ds : List Nat} {pi : Pn} {fuel i j : Nat} {b : Array Bool} (hp : ∀ c a w, Q (.panic c) a w → False) (hj : nth ops.toList j = some o) (h : WB P E n ops Q o o.guard.isNone (.tail Ls ds fuel (b.setIfInBounds i true) j pi) env L) : WN P E n ops Q (.tail Ls ds (fuel + 1) b i (.cons j pi)) env L :=
  fun a w ha hs => h hp (fun hg a _ => by cases hq : o.guard <;> simp [hq] at hg; simp [Region.wanted, hq]) (by rw [← nth_eq, Array.getElem?_toList] at hj; exact hj) a w ha hs
/-- Wanted after all; or not. -/
theorem on_ (hw : Wn n ops env o true) (k : WB P E n ops Q o true r env L) : WB P E n ops Q o false r env L := fun hp _ => k hp fun _ a ha => hw a ha
theorem off_ {d : Nat} {op : Op} {ty : TypeId} {ps : String} {af : Array Edge} {g : Option (Nat × Bool)} (hw : Wn n ops env ⟨some d, op, ty, ps, af, g⟩ false) (hd : Nat.blt d n = true) (hok : okB ops 0 r = true) (k : WN P E n ops Q r ((d, undef) :: env) L) : WB P E n ops Q ⟨some d, op, ty, ps, af, g⟩ false r env L := wb_off hw hd hok k
theorem off0_ {op : Op} {ty : TypeId} {ps : String} {af : Array Edge} {g : Option (Nat × Bool)} (hw : Wn n ops env ⟨none, op, ty, ps, af, g⟩ false) (hok : okB ops 0 r = true) (k : WN P E n ops Q r env L) : WB P E n ops Q ⟨none, op, ty, ps, af, g⟩ false r env L := wb_off hw rfl hok k
/-- The Bool that an operation hangs on: both ways. -/
theorem gcase_ {dst : Option Tmp} {op : Op} {ty : TypeId} {ps : String} {af : Array Edge} {j : Nat} {want : Bool} {oj : Oper} {dj : Nat} {b : Bool} (hj : nth ops.toList j = some oj) (hd : oj.dst = some dj) (hl : lk env dj = some (.bool b)) (ht : b = true → WB P E n ops Q ⟨dst, op, ty, ps, af, some (j, want)⟩ false r env L)
    (hf : b = false → WB P E n ops Q ⟨dst, op, ty, ps, af, some (j, want)⟩ false r env L) : WB P E n ops Q ⟨dst, op, ty, ps, af, some (j, want)⟩ false r env L := by
  cases b
  · exact hf rfl
  · exact ht rfl
theorem gcaseD_ {dst : Option Tmp} {op : Op} {ty : TypeId} {ps : String} {af : Array Edge} {j : Nat} {want : Bool} {oj : Oper} {dj : Nat} {p : Prop} {ip : Decidable p} (hj : nth ops.toList j = some oj) (hd : oj.dst = some dj) (hl : lk env dj = some (.bool (decide p))) (ht : p → decide p = true → WB P E n ops Q ⟨dst, op, ty, ps, af, some (j, want)⟩ false r env L)
    (hf : ¬ p → decide p = false → WB P E n ops Q ⟨dst, op, ty, ps, af, some (j, want)⟩ false r env L) : WB P E n ops Q ⟨dst, op, ty, ps, af, some (j, want)⟩ false r env L := by
  by_cases h : p
  · exact ht h (decide_eq_true h)
  · exact hf h (decide_eq_false h)
theorem gcaseE_ {dst : Option Tmp} {op : Op} {ty : TypeId} {ps : String} {af : Array Edge} {j : Nat} {want : Bool} {oj : Oper} {dj : Nat} {x y : Int} (hj : nth ops.toList j = some oj) (hd : oj.dst = some dj) (hl : lk env dj = some (.bool (x == y))) (ht : x = y → (x == y) = true → WB P E n ops Q ⟨dst, op, ty, ps, af, some (j, want)⟩ false r env L)
    (hf : ¬ x = y → (x == y) = false → WB P E n ops Q ⟨dst, op, ty, ps, af, some (j, want)⟩ false r env L) : WB P E n ops Q ⟨dst, op, ty, ps, af, some (j, want)⟩ false r env L := by
  by_cases h : x = y
  · exact ht h (by simpa using h)
  · exact hf h (by simpa using h)
theorem gcaseN_ {dst : Option Tmp} {op : Op} {ty : TypeId} {ps : String} {af : Array Edge} {j : Nat} {want : Bool} {oj : Oper} {dj : Nat} {x y : Int} (hj : nth ops.toList j = some oj) (hd : oj.dst = some dj) (hl : lk env dj = some (.bool (x != y))) (ht : ¬ x = y → (x != y) = true → WB P E n ops Q ⟨dst, op, ty, ps, af, some (j, want)⟩ false r env L)
    (hf : x = y → (x != y) = false → WB P E n ops Q ⟨dst, op, ty, ps, af, some (j, want)⟩ false r env L) : WB P E n ops Q ⟨dst, op, ty, ps, af, some (j, want)⟩ false r env L := by
  by_cases h : x = y
  · exact hf h (by simpa using h)
  · exact ht h (by simpa using h)
variable {d : Nat} {op : Op} {ty : TypeId} {ps : String} {af : Array Edge} {g : Option (Nat × Bool)} {v : Value} {Ls : List SA}
/-- A value, whatever the world. -/
theorem v_ (h : Val P n ⟨some d, op, ty, ps, af, g⟩ env v) (hd : Nat.blt d n = true) (hok : okB ops 0 r = true) (k : WN P E n ops Q r ((d, v) :: env) L) : WB P E n ops Q ⟨some d, op, ty, ps, af, g⟩ true r env L := wb_val h hd hok k
/-- A reading. -/
theorem s_ (h : ValS P E n ⟨some d, op, ty, ps, af, g⟩ env Ls v) (hs : Sel (vis r L) Ls) (hd : Nat.blt d n = true) (hok : okB ops 1 r = true) (k : WN P E n ops Q r ((d, v) :: env) L) : WB P E n ops Q ⟨some d, op, ty, ps, af, g⟩ true r env L := wb_read h hs hd hok k
/-- What does something, and yields a value; or none. -/
theorem do_ {R : Value → List SA → Prop} (h : Does P E n ⟨some d, op, ty, ps, af, g⟩ env L R) (hd : Nat.blt d n = true) (hok : okB ops 2 r = true) (k : ∀ v L', R v L' → kept r L' ∧ WN P E n ops Q (adv r) ((d, v) :: env) L') : WB P E n ops Q ⟨some d, op, ty, ps, af, g⟩ true r env L := wb_do h hd hok k
theorem do0_ {R : Value → List SA → Prop} (h : Does P E n ⟨none, op, ty, ps, af, g⟩ env L R) (hok : okB ops 2 r = true) (k : ∀ v L', R v L' → kept r L' ∧ WN P E n ops Q (adv r) env L') : WB P E n ops Q ⟨none, op, ty, ps, af, g⟩ true r env L := wb_do h rfl hok k
/-- A reading, where nothing else may come up. -/
theorem s2_ (h : ValS P E n ⟨some d, op, ty, ps, af, g⟩ env Ls v) (hs : Sel L Ls) (hd : Nat.blt d n = true) (hok : okB ops 2 r = true) (hk : kept r L) (k : WN P E n ops Q (adv r) ((d, v) :: env) L) : WB P E n ops Q ⟨some d, op, ty, ps, af, g⟩ true r env L :=
  do_ (h.does hs) hd hok fun v' L' ⟨e1, e2⟩ => by subst e1 e2; exact ⟨hk, k⟩
theorem wb_imp {wn : Bool} (h : ∀ w, Sat E L w → Sat E M w) (k : WB P E n ops Q o wn r env M) : WB P E n ops Q o wn r env L := fun hp hw => by
  have := k hp hw
  cases r with
  | plain rest => exact fun a w ha hs => this a w ha (h w hs)
  | draw Ls ds fuel b i pi => exact fun hi a w ha hs => this hi a w ha (h w hs)
  | tail Ls ds fuel b i pi => exact fun hi a w ha hs => this hi a w ha (h w hs)
  | fork Ls ds fuel b i pi => exact fun hi a w ha hs hS => this hi a w ha (h w hs) hS
theorem wn_imp (h : ∀ w, Sat E L w → Sat E M w) (k : WN P E n ops Q r env M) : WN P E n ops Q r env L := by
  cases r with
  | plain rest => exact fun a w ha hs => k a w ha (h w hs)
  | draw Ls ds fuel b i pi => exact fun a w ha hs => k a w ha (h w hs)
  | tail Ls ds fuel b i pi => exact fun a w ha hs => k a w ha (h w hs)
  | fork Ls ds fuel b i pi => exact fun a w ha hs => k a w ha (h w hs)
end

/-! ### 5. Code -/
inductive Fr where
  | code (c : Code)
  | blk (id : Nat)
  | stop (J : En → List SA → Prop)
def Retn (P : Program) (E : World) (rs : Array ResultVar → Prop) (fn : Func) (Post : Value → List SA → Prop) (R : SA) (a : Act) (w : World) : Prop :=
  a.defers = [] ∧ ∃ v L', (results fn a.tmps).run P w = .ok v w ∧ Post v L' ∧ Sat E (L' ++ [R]) w
def QK (P : Program) (E : World) (n : Nat) (T : Act → World → Prop) : List Fr → Exit → Act → World → Prop
  | [], .normal, a, w => T a w
  | [], .ret, a, w => T a w
  | [], _, _, _ => False
  | .code c :: k, .normal, a, w => c.wp P (QK P E n T k) a w
  | .code _ :: k, e, a, w => QK P E n T k e a w
  | .blk _ :: k, .normal, a, w => QK P E n T k .normal a w
  | .blk id :: k, .exit id', a, w => if id' = id then QK P E n T k .normal a w else QK P E n T k (.exit id') a w
  | .blk _ :: k, e, a, w => QK P E n T k e a w
  | .stop J :: _, .normal, a, w => ∃ env L, EnvOk n env a ∧ Sat E L w ∧ J env L
  | .stop _ :: k, e, a, w => QK P E n T k e a w
variable {T : Act → World → Prop}
def WK (P : Program) (E : World) (n : Nat) (T : Act → World → Prop) (k : List Fr) (env : En) (L : List SA) : Prop :=
  ∀ a w, EnvOk n env a → Sat E L w → QK P E n T k .normal a w
theorem QK_ret : ∀ {k : List Fr} {a : Act} {w : World}, QK P E n T k .ret a w ↔ T a w
  | [], _, _ => Iff.rfl
  | .code _ :: k, _, _ => QK_ret (k := k)
  | .blk _ :: k, _, _ => QK_ret (k := k)
  | .stop _ :: k, _, _ => QK_ret (k := k)
theorem QK_panic : ∀ {k : List Fr} {c : List PanicEntry} {a : Act} {w : World}, QK P E n T k (.panic c) a w → False
  | [], _, _, _, h => h
  | .code _ :: k, _, _, _, h => QK_panic (k := k) h
  | .blk _ :: k, _, _, _, h => QK_panic (k := k) h
  | .stop _ :: k, _, _, _, h => QK_panic (k := k) h
def popTo (id : Nat) : List Fr → Option (List Fr)
  | [] => none
  | .blk i :: k => if id = i then some k else popTo id k
  | .code _ :: k => popTo id k
  | .stop _ :: k => popTo id k
theorem QK_exit {id : Nat} : ∀ {k k' : List Fr} {a : Act} {w : World}, popTo id k = some k' → QK P E n T k' .normal a w → QK P E n T k (.exit id) a w
  | [], _, _, _, h, _ => by simp [popTo] at h
  | .code _ :: k, _, _, _, h, hq => QK_exit (k := k) h hq
  | .stop _ :: k, _, _, _, h, hq => QK_exit (k := k) h hq
  | .blk i :: k, k', a, w, h, hq => by
    simp only [popTo] at h
    simp only [QK]
    by_cases e : id = i
    · rw [if_pos e] at h ⊢; cases h; exact hq
    · rw [if_neg e] at h ⊢; exact QK_exit h hq
section
variable {k : List Fr} {env : En} {L M : List SA} {c d : Code}
theorem skip_ (h : WK P E n T k env L) : WK P E n T (.code .skip :: k) env L := fun a w ha hs => wp_skip (h a w ha hs)
theorem seq_ (h : WK P E n T (.code c :: .code d :: k) env L) : WK P E n T (.code (.seq c d) :: k) env L := fun a w ha hs => by
  refine wp_seq (Code.wp_mono (fun e a w hq => ?_) (h a w ha hs))
  cases e <;> exact hq
theorem block_ {id : Nat} (h : WK P E n T (.code c :: .blk id :: k) env L) : WK P E n T (.code (.block id c) :: k) env L := fun a w ha hs => by
  refine wp_block (Code.wp_mono (fun e a w hq => ?_) (h a w ha hs))
  cases e with
  | exit id' =>
    simp only [QK] at hq
    simp only [Exit.inBlock]
    split <;> rename_i e
    · rw [if_pos e] at hq; exact hq
    · rw [if_neg e] at hq; exact hq
  | _ => exact hq
theorem blk_ {id : Nat} (h : WK P E n T k env L) : WK P E n T (.blk id :: k) env L := fun a w ha hs => h a w ha hs
theorem exit_ {id : Nat} {k' : List Fr} (hp : popTo id k = some k') (h : WK P E n T k' env L) : WK P E n T (.code (.exit id) :: k) env L := fun a w ha hs => wp_exit (QK_exit hp (h a w ha hs))
theorem if_ {x : Operand} {b : Bool} (hx : ev env x = some (.bool b)) (ht : b = true → WK P E n T (.code c :: k) env L) (hf : b = false → WK P E n T (.code d :: k) env L) : WK P E n T (.code (.cond x c d) :: k) env L := fun a w ha hs => by
  refine wp_cond (ha.eval hx) ?_
  cases b
  · exact hf rfl a w ha hs
  · exact ht rfl a w ha hs
theorem ifT_ {x : Operand} (hx : ev env x = some (.bool true)) (ht : WK P E n T (.code c :: k) env L) : WK P E n T (.code (.cond x c d) :: k) env L := if_ hx (fun _ => ht) (fun h => by cases h)
theorem ifF_ {x : Operand} (hx : ev env x = some (.bool false)) (hf : WK P E n T (.code d :: k) env L) : WK P E n T (.code (.cond x c d) :: k) env L := if_ hx (fun h => by cases h) (fun _ => hf)
theorem ifB_ {x : Operand} {b : Bool} (hx : ev env x = some (.bool b)) (hb : b = true) (ht : WK P E n T (.code c :: k) env L) : WK P E n T (.code (.cond x c d) :: k) env L := ifT_ (by rw [hx, hb]) ht
theorem ifC_ {x : Operand} {b : Bool} (hx : ev env x = some (.bool b)) (hb : b = false) (hf : WK P E n T (.code d :: k) env L) : WK P E n T (.code (.cond x c d) :: k) env L := ifF_ (by rw [hx, hb]) hf
theorem ifD_ {x : Operand} {p : Prop} {ip : Decidable p} (hx : ev env x = some (.bool (decide p))) (ht : p → WK P E n T (.code c :: k) env L) (hf : ¬ p → WK P E n T (.code d :: k) env L) : WK P E n T (.code (.cond x c d) :: k) env L := if_ hx (fun h => ht (of_decide_eq_true h)) (fun h => hf (of_decide_eq_false h))
theorem ifE_ {x : Operand} {i j : Int} (hx : ev env x = some (.bool (i == j))) (ht : i = j → WK P E n T (.code c :: k) env L) (hf : ¬ i = j → WK P E n T (.code d :: k) env L) : WK P E n T (.code (.cond x c d) :: k) env L := if_ hx (fun h => ht (by simpa using h)) (fun h => hf (by simpa using h))
theorem ifN_ {x : Operand} {i j : Int} (hx : ev env x = some (.bool (i != j))) (ht : ¬ i = j → WK P E n T (.code c :: k) env L) (hf : i = j → WK P E n T (.code d :: k) env L) : WK P E n T (.code (.cond x c d) :: k) env L := if_ hx (fun h => ht (by simpa using h)) (fun h => hf (by simpa using h))
theorem region_ {id : Nat} {l : List Oper} (h : WN P E n l.toArray (QK P E n T k) (.plain l) env L) : WK P E n T (.code (.region id l.toArray false) :: k) env L := fun a w ha hs => wp_region_lit (h a w ha hs)
theorem rend_ {ops : Array Oper} (h : WK P E n T k env L) : WN P E n ops (QK P E n T k) (.plain []) env L := fun a w ha hs => h a w ha hs
/-- A region that draws: the order in which it is gone through here (pi), what is read and kept (Ls), what comes last (ds). -/
theorem regionD_ {id : Nat} {ops : Array Oper} (m : Nat) (pi : Pn) (Ls : List SA) (ds : List Nat) (hm : P.follows .mixedOrders = true) (hn : ops.toList.length = m) (hs : Sel L Ls) (h : WN P E n ops (QK P E n T k) (.draw Ls ds m (Array.replicate m false) m pi) env L) : WK P E n T (.code (.region id ops true) :: k) env L := fun a w ha hw => by
  rw [Array.length_toList] at hn
  refine Proofs.YtpghbkkjdfaflaaW.PrintLast.start_ (S := Sat E Ls) (ds := ds) (n := m) _ hm hn rfl (hw.sel hs) fun hS => ?_
  have := h a w.drew ha hw hS
  rwa [Array.setIfInBounds_eq_of_size_le (by simp)] at this
theorem rendD_ {ops : Array Oper} {Ls : List SA} {ds : List Nat} {fuel i : Nat} {b : Array Bool} (hr : (Region.ready .any ops (b.setIfInBounds i true) == []) = true) (h : WK P E n T k env L) : WN P E n ops (QK P E n T k) (.draw Ls ds fuel b i .nil) env L :=
  fun a w ha hs _ => Proofs.YtpghbkkjdfaflaaW.PrintLast.done_ hr (h a w ha hs)
theorem rendT_ {ops : Array Oper} {Ls : List SA} {ds : List Nat} {fuel i : Nat} {b : Array Bool} (hr : (Region.ready .any ops (b.setIfInBounds i true) == []) = true) (h : WK P E n T k env L) : WN P E n ops (QK P E n T k) (.tail Ls ds fuel b i .nil) env L :=
  fun a w ha hs => Proofs.YtpghbkkjdfaflaaW.PrintLast.done_ hr (h a w ha hs)
theorem fk_ {ops : Array Oper} {Q : Exit → Act → World → Prop} {Ls : List SA} {ds : List Nat} {pi : Pn} {fuel i : Nat} {b : Array Bool} (h : WN P E n ops Q (.draw Ls ds fuel b i pi) env L) : WN P E n ops Q (.fork Ls ds fuel b i pi) env L := h
theorem wnt (o : Oper) : o.guard.isNone = true → ∀ a, EnvOk n env a → ∀ ops : Array Oper, Region.wanted o (yielded ops a.tmps) = true := fun hg a _ _ => by cases hq : o.guard <;> simp [hq] at hg; simp [Region.wanted, hq]
theorem nxtF_ {ops : Array Oper} {o1 o2 : Oper} {Ls : List SA} {ds : List Nat} {p1 p2 : Pn} {fuel i j1 j2 : Nat} {b : Array Bool} (hr : (Region.ready .any ops (b.setIfInBounds i true) == [j1, j2]) = true) (h1 : nth ops.toList j1 = some o1) (h2 : nth ops.toList j2 = some o2)
    (k1 : WB P E n ops (QK P E n T k) o1 o1.guard.isNone (.fork Ls ds fuel (b.setIfInBounds i true) j1 p1) env L) (k2 : WB P E n ops (QK P E n T k) o2 o2.guard.isNone (.fork Ls ds fuel (b.setIfInBounds i true) j2 p2) env L) : WN P E n ops (QK P E n T k) (.draw Ls ds (fuel + 1) b i (.two j1 p1 j2 p2)) env L := fun a w ha hs hS => by
  rw [← nth_eq, Array.getElem?_toList] at h1 h2
  refine Proofs.YtpghbkkjdfaflaaW.PrintLast.wpAnyLast_all (by simpa using hr) (by simp) fun i hi => ?_
  simp only [List.mem_cons, List.not_mem_nil, or_false] at hi
  rcases hi with rfl | rfl
  · exact k1 (fun _ _ _ => QK_panic) (fun hg a ha => wnt _ hg a ha ops) h1 a w ha hs hS
  · exact k2 (fun _ _ _ => QK_panic) (fun hg a ha => wnt _ hg a ha ops) h2 a w ha hs hS
theorem nxtF3_ {ops : Array Oper} {o1 o2 o3 : Oper} {Ls : List SA} {ds : List Nat} {p1 p2 p3 : Pn} {fuel i j1 j2 j3 : Nat} {b : Array Bool} (hr : (Region.ready .any ops (b.setIfInBounds i true) == [j1, j2, j3]) = true) (h1 : nth ops.toList j1 = some o1) (h2 : nth ops.toList j2 = some o2) (h3 : nth ops.toList j3 = some o3)
    (k1 : WB P E n ops (QK P E n T k) o1 o1.guard.isNone (.fork Ls ds fuel (b.setIfInBounds i true) j1 p1) env L) (k2 : WB P E n ops (QK P E n T k) o2 o2.guard.isNone (.fork Ls ds fuel (b.setIfInBounds i true) j2 p2) env L) (k3 : WB P E n ops (QK P E n T k) o3 o3.guard.isNone (.fork Ls ds fuel (b.setIfInBounds i true) j3 p3) env L) : WN P E n ops (QK P E n T k) (.draw Ls ds (fuel + 1) b i (.three j1 p1 j2 p2 j3 p3)) env L := fun a w ha hs hS => by
  rw [← nth_eq, Array.getElem?_toList] at h1 h2 h3
  refine Proofs.YtpghbkkjdfaflaaW.PrintLast.wpAnyLast_all (by simpa using hr) (by simp) fun i hi => ?_
  simp only [List.mem_cons, List.not_mem_nil, or_false] at hi
  rcases hi with rfl | rfl | rfl
  · exact k1 (fun _ _ _ => QK_panic) (fun hg a ha => wnt _ hg a ha ops) h1 a w ha hs hS
  · exact k2 (fun _ _ _ => QK_panic) (fun hg a ha => wnt _ hg a ha ops) h2 a w ha hs hS
  · exact k3 (fun _ _ _ => QK_panic) (fun hg a ha => wnt _ hg a ha ops) h3 a w ha hs hS
theorem qp {c : List PanicEntry} {a : Act} {w : World} : QK P E n T k (.panic c) a w → False := QK_panic
theorem nxt_ {ops : Array Oper} {o : Oper} {rest : List Oper} (h : WB P E n ops (QK P E n T k) o o.guard.isNone (.plain rest) env L) : WN P E n ops (QK P E n T k) (.plain (o :: rest)) env L := nx_ (fun _ _ _ => QK_panic) h
theorem nxtD_ {ops : Array Oper} {o : Oper} {Ls : List SA} {ds : List Nat} {pi : Pn} {fuel i j : Nat} {b : Array Bool} (hj : nth ops.toList j = some o) (h : WB P E n ops (QK P E n T k) o o.guard.isNone (.draw Ls ds fuel (b.setIfInBounds i true) j pi) env L) : WN P E n ops (QK P E n T k) (.draw Ls ds (fuel + 1) b i (.cons j pi)) env L := nxD_ (fun _ _ _ => QK_panic) hj h
theorem nxtT_ {ops : Array Oper} {o : Oper} {Ls : List SA} {ds : List Nat} {pi : Pn} {fuel i j : Nat} {b : Array Bool} (hj : nth ops.toList j = some o) (h : WB P E n ops (QK P E n T k) o o.guard.isNone (.tail Ls ds fuel (b.setIfInBounds i true) j pi) env L) : WN P E n ops (QK P E n T k) (.tail Ls ds (fuel + 1) b i (.cons j pi)) env L := nxT_ (fun _ _ _ => QK_panic) hj h
theorem stop_ {J : En → List SA → Prop} (h : J env L) : WK P E n T (.stop J :: k) env L := fun a w ha hs => ⟨env, L, ha, hs, h⟩
theorem stopAt_ {J : En → List SA → Prop} (xs : List Nat) {env' : En} (he : keep env xs = env') (hs : Sel L M) (h : J env' M) : WK P E n T (.stop J :: k) env L := fun a w ha hw => ⟨env', M, ha.weak fun x v hx => keep_ok (he ▸ hx), hw.sel hs, h⟩
theorem wk_imp (h : ∀ w, Sat E L w → Sat E M w) (hk : WK P E n T k env M) : WK P E n T k env L := fun a w ha hs => hk a w ha (h w hs)
theorem wk_env (xs : List Nat) {env' : En} (he : keep env xs = env') (hk : WK P E n T k env' L) : WK P E n T k env L := fun a w ha hs => hk a w (ha.weak fun x v hx => keep_ok (he ▸ hx)) hs
/-- A loop: its invariant bears a number that falls. -/
theorem loop_ (I : Nat → En → List SA → Prop) (m : Nat) (xs : List Nat) {env' : En} (he : keep env xs = env') (hs : Sel L M) (h0 : I m env' M)
    (h : ∀ m env L, I m env L → WK P E n T (.code c :: .stop (fun env' L' => ∃ m', m' < m ∧ I m' env' L') :: k) env L) : WK P E n T (.code (.loop c) :: k) env L := by
  intro a w ha hw b kk cs
  have key : ∀ m a w, (∃ env L, EnvOk n env a ∧ Sat E L w ∧ I m env L) →
      ∃ e a' w', QK P E n T k e a' w' ∧ Arrives P (lone (b.at a (.code c :: .inLoop c :: kk)) cs w) b kk cs e a' w' := by
    intro m
    induction m using Nat.strongRecOn with
    | _ m ih =>
      rintro a w ⟨env, L, ha, hs, hI⟩
      obtain ⟨e, a1, w1, hq, harr⟩ := h m env L hI a w ha hs b (.inLoop c :: kk) cs
      cases e with
      | normal =>
        obtain ⟨env1, L1, ha1, hs1, m', hm', hI1⟩ := hq
        obtain ⟨e2, a2, w2, hq2, harr2⟩ := ih m' hm' a1 w1 ⟨env1, L1, ha1, hs1, hI1⟩
        exact ⟨e2, a2, w2, hq2, .of_steps (Steps.trans harr (.one step_inLoop)) harr2⟩
      | exit id => exact ⟨_, a1, w1, hq, .pass (x := .inLoop c) rfl (fun _ _ => .inl (by simp)) harr⟩
      | goto l => exact ⟨_, a1, w1, hq, .pass (x := .inLoop c) rfl (fun _ _ => .inl (by simp)) harr⟩
      | ret => exact ⟨_, a1, w1, hq, .pass (x := .inLoop c) rfl (fun _ _ => .inl (by simp)) harr⟩
      | panic ch => exact ⟨_, a1, w1, hq, .pass (x := .inLoop c) rfl (fun _ _ => .inl (by simp)) harr⟩
      | outgrown => exact ⟨_, a1, w1, hq, .pass (x := .inLoop c) rfl (fun _ _ => .inl (by simp)) harr⟩
  obtain ⟨e, a', w', hq, harr⟩ := key m a w ⟨env', M, ha.weak fun x v hx => keep_ok (he ▸ hx), hw.sel hs, h0⟩
  exact ⟨e, a', w', hq, .of_steps (.one step_loop) harr⟩
end
end
end Go.SL
