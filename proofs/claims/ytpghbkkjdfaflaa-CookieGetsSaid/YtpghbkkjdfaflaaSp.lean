/- More operations: literals, bytes to a string, slices that are read for good, closures. -/
import Derived.Test.YtpghbkkjdfaflaaSo
import Derived.Laws.BytesString
set_option linter.unusedVariables false
set_option linter.unusedSimpArgs false
namespace Go.SL
open Go.RowKit

/-! ### 1. Literals. What is proposed here the kernel holds against the model's own run -/
class TPl (P : Program) (t : TypeId) (pl : outParam (List Nat)) : Prop where
  ok : True
def catS {α : Type} : List α → List α → Option (List α)
  | [], m => some m
  | a :: l, m => match catS l m with
    | some r => some (a :: r)
    | none => none
def cellsL : Value → List Value
  | .agg cs => cs.toList
  | v => [v]
def flatV : List (Nat × Value) → Option (List Value)
  | [] => some []
  | (_, v) :: r => match flatV r with
    | some m => catS (cellsL v) m
    | none => none
def setMany {α : Type} : List α → Nat → List α → Option (List α)
  | l, _, [] => some l
  | l, i, v :: vs => match setN l i v with
    | some m => setMany m (i + 1) vs
    | none => none
def prop (pl : List Nat) : List Value → List (Nat × Value) → Option (List Value)
  | l, [] => some l
  | l, (i, v) :: r => match nth pl i with
    | some o => match setMany l o (cellsL v) with
      | some m => prop pl m r
      | none => none
    | none => none
section
variable {P : Program} {E : World} {n : Nat} {env : En} {d : Nat} {ty : TypeId} {ps : String} {af : Array Edge} {gd : Option (Nat × Bool)} {ops : Array Oper} {Q : Exit → Act → World → Prop} {r : Rs} {L M : List SA}
theorem bd_ {t : TypeId} {z : Array Value} {pl : List Nat} [hz : TZero P t (.agg z)] [hp : TPl P t pl] {parts : List (Nat × Operand)} {vs : List (Nat × Value)} {l : List Value} (hv : evp env parts = some vs) (hl : prop pl z.toList vs = some l) (hr : ∀ w, (Instr.build t vs.toArray).run P w = .ok (.agg l.toArray) w)
    (hd : Nat.blt d n = true) (hok : okB ops 0 r = true) (k : WN P E n ops Q r ((d, .agg l.toArray) :: env) L) : WB P E n ops Q ⟨some d, .build t parts.toArray, ty, ps, af, gd⟩ true r env L := v_ (bd hv hr) hd hok k
theorem bsl_ {t e : TypeId} [ht : TSlc P t e] {m : Nat} {parts : List (Nat × Operand)} {vs : List (Nat × Value)} {l : List Value} (hv : evp env parts = some vs) (hl : flatV vs = some l)
    (hr : ∀ w, (Instr.buildSlice t m vs.toArray).run P w = .ok (.slice (some ⟨w.heap.size, 0, none⟩) m m) { w with heap := w.heap.push (.cells l.toArray e) })
    (hd : Nat.blt d n = true) (hok : okB ops 2 r = true) (k : ∀ g, kept r (blk g (.cells l.toArray e (0, 0)) :: L) ∧ WN P E n ops Q (adv r) ((d, .slice (some ⟨g, 0, none⟩) m m) :: env) (blk g (.cells l.toArray e (0, 0)) :: L)) : WB P E n ops Q ⟨some d, .buildSlice t m parts.toArray, ty, ps, af, gd⟩ true r env L :=
  do_ (does_value (R := fun v L' => ∃ g, v = .slice (some ⟨g, 0, none⟩) m m ∧ L' = blk g (.cells l.toArray e (0, 0)) :: L) fun a w ha hs => ⟨_, _, { w with heap := w.heap.push (.cells l.toArray e) }, by
    have := evp_ok ha hv
    simp [execOp, this, hr], ⟨w.heap.size, rfl, rfl⟩, hs.new _ _ rfl rfl rfl rfl⟩) hd hok fun v' L' ⟨g, e1, e2⟩ => by subst e1 e2; exact k g
/-- A block that nobody writes any more. -/
theorem frz_ {g : Nat} {o : Obj} (hp : Pl (blk g o) L M) (k : WN P E n ops Q r env (ro g o :: M)) : WN P E n ops Q r env L := wn_imp (fun w h => (h.pl hp).freeze) k

/-! ### 2. Bytes -/
def byt (l : List Int) : ByteArray := ⟨(l.map fun x => UInt8.ofNat x.toNat).toArray⟩
def u8s : Nat → List Value → Option (List Int)
  | 0, _ => some []
  | k + 1, .int .u8 x :: l => match u8s k l with
    | some m => some (x :: m)
    | none => none
  | _, _ => none
theorem u8s_ok : ∀ {k : Nat} {l : List Value} {m : List Int}, u8s k l = some m → m.length = k ∧ ∀ (j : Nat) (x : Int), m[j]? = some x → l[j]? = some (Value.int .u8 x)
  | 0, l, m, h => by simp [u8s] at h; subst h; exact ⟨rfl, fun j x hj => by simp at hj⟩
  | k + 1, [], m, h => by simp [u8s] at h
  | k + 1, v :: l, m, h => by
    cases v with
    | int kk x =>
      cases kk <;> try (simp [u8s] at h; done)
      simp only [u8s] at h
      cases hu : u8s k l with
      | none => rw [hu] at h; cases h
      | some m' =>
        rw [hu] at h
        cases h
        obtain ⟨h1, h2⟩ := u8s_ok hu
        refine ⟨by simp [h1], fun j y hj => ?_⟩
        cases j with
        | zero => simp at hj; simp [hj]
        | succ j => simp at hj ⊢; exact h2 j y hj
    | _ => simp [u8s] at h
theorem byt_fold : ∀ (m : List Int) (r : ByteArray), m.foldl (fun r n => r.push (UInt8.ofNat n.toNat)) r = ⟨r.data ++ (m.map fun x => UInt8.ofNat x.toNat).toArray⟩
  | [], r => by simp
  | x :: m, r => by
    rw [List.foldl_cons, byt_fold m]
    congr 1
    simp [ByteArray.push]
theorem run_byt {w : World} (a : Addr) (k c : Nat) (m : List Int) (hm : m.length = k) (h : ∀ (j : Nat) (x : Int), m[j]? = some x → w.cell? (a.add j) = some (.int .u8 x)) : (Conv.bytesToString (.slice (some a) k c)).run P w = .ok (.string (byt m)) w := by
  have h1 := run_loadCells_list (P := P) (w := w) a (m.map (Value.int .u8)) (fun j v hj => by
    simp at hj
    obtain ⟨x, hx, rfl⟩ := hj
    exact h j x hx)
  rw [List.length_map, hm] at h1
  rw [run_bytesToString w a k c m h1, byt_fold]
  simp [byt, ByteArray.empty, ByteArray.emptyWithCapacity]
  rfl
class TByt (P : Program) (t : TypeId) : Prop where
  und : ∃ e, P.underlying t = some (.slice e) ∧ P.underlying e = some (.int .u8)
theorem cvB_ {t t' : TypeId} [ht : TByt P t] [ht' : TStr P t'] {x : Operand} {g k c : Nat} {cs : Array Value} {e : TypeId} {fr : Nat × Nat} {m : List Int} (hx : ev env x = some (.slice (some ⟨g, 0, none⟩) k c)) (hp : Pl (blk g (.cells cs e fr)) (vis r L) M) (hm : u8s k cs.toList = some m)
    (hd : Nat.blt d n = true) (hok : okB ops 1 r = true) (kk : WN P E n ops Q r ((d, .string (byt m)) :: env) L) : WB P E n ops Q ⟨some d, .convert t t' x, ty, ps, af, gd⟩ true r env L := by
  refine s_ (Ls := [blk g (.cells cs e fr)]) (fun a w ha hs => ?_) (.cons hp .nil) hd hok kk
  obtain ⟨h1, h2⟩ := u8s_ok hm
  obtain ⟨e', hu, hu'⟩ := ht.und
  have := run_byt (P := P) (w := w) ⟨g, 0, none⟩ k c m h1 (fun j x hj => by
    rw [add_pl, Nat.zero_add, cell_of hs.blk j, ← Array.getElem?_toList]
    exact h2 j x hj)
  simp [execOp, ha.eval hx, convert, run_und hu, run_und ht'.und, run_und hu', this]
theorem cvB2_ {t t' : TypeId} [ht : TByt P t] [ht' : TStr P t'] {x : Operand} {g k c : Nat} {cs : Array Value} {e : TypeId} {fr : Nat × Nat} {m : List Int} (hx : ev env x = some (.slice (some ⟨g, 0, none⟩) k c)) (hp : Pl (blk g (.cells cs e fr)) L M) (hm : u8s k cs.toList = some m)
    (hd : Nat.blt d n = true) (hok : okB ops 2 r = true) (hk : kept r L) (kk : WN P E n ops Q (adv r) ((d, .string (byt m)) :: env) L) : WB P E n ops Q ⟨some d, .convert t t' x, ty, ps, af, gd⟩ true r env L := by
  refine s2_ (Ls := [blk g (.cells cs e fr)]) (fun a w ha hs => ?_) (.cons hp .nil) hd hok hk kk
  obtain ⟨h1, h2⟩ := u8s_ok hm
  obtain ⟨e', hu, hu'⟩ := ht.und
  have := run_byt (P := P) (w := w) ⟨g, 0, none⟩ k c m h1 (fun j x hj => by
    rw [add_pl, Nat.zero_add, cell_of hs.blk j, ← Array.getElem?_toList]
    exact h2 j x hj)
  simp [execOp, ha.eval hx, convert, run_und hu, run_und ht'.und, run_und hu', this]

/-! ### 3. Results of which some lie in memory -/
inductive RV (P : Program) (env : En) (L : List SA) : List ResultVar → List Value → Prop
  | nil : RV P env L [] []
  | tmp {t : Nat} {v : Value} {rs : List ResultVar} {vs : List Value} : lk env t = some v → RV P env L rs vs → RV P env L (.tmp t :: rs) (v :: vs)
  | cell {x : Nat} {t : TypeId} {sz : Nat} [hc : TAgg P t sz] {g : Nat} {l : List Value} {e : TypeId} {fr : Nat × Nat} {M : List SA} {rs : List ResultVar} {vs : List Value} : lk env x = some (.pointer (some ⟨g, 0, none⟩)) → Pl (blk g (.cells l.toArray e fr)) L M → l.length = sz → RV P env L rs vs → RV P env L (.cell x t :: rs) (.agg l.toArray :: vs)
  | cell1 {x : Nat} {t : TypeId} [hc : TCell P t] {g : Nat} {v : Value} {e : TypeId} {fr : Nat × Nat} {M : List SA} {rs : List ResultVar} {vs : List Value} : lk env x = some (.pointer (some ⟨g, 0, none⟩)) → Pl (blk g (.cells #[v] e fr)) L M → RV P env L rs vs → RV P env L (.cell x t :: rs) (v :: vs)
theorem RV.ok {a : Act} {w : World} (ha : EnvOk n env a) (hs : Sat E L w) {fn : Func} {rs : List ResultVar} {vs : List Value} (hf : fn.results = rs.toArray) (h : RV P env L rs vs) : (results fn a.tmps).run P w = .ok (tup vs) w := by
  have key : ∀ (g : ResultVar → Sem Value), (∀ t, g (.tmp t) = pure (a.tmps.getD t undef)) → (∀ x t, g (.cell x t) = (do loadVar t (← asAddr (a.tmps.getD x undef)))) → (rs.mapM g).run P w = .ok vs w := by
    intro g hg hg2
    clear hf
    induction h with
    | nil => simp
    | tmp ht hr ih =>
      have := ha.at_ _ _ ht
      simp [List.mapM_cons, hg, this, ih]
    | @cell x t sz hc g' l e fr M rs vs ht hp hl hr ih =>
      have h1 := ha.at_ _ _ ht
      have hg' := fun j => cell_of (hs.pl hp).blk j
      have h2 := run_loadCells_list (P := P) (w := w) ⟨g', 0, none⟩ l (fun j v hj => by rw [add_pl, Nat.zero_add, hg' j]; simpa using hj)
      rw [hl] at h2
      simp [List.mapM_cons, hg2, h1, asAddr, loadVar, hc.agg, hc.size, h2, ih]
    | @cell1 x t hc g' v e fr M rs vs ht hp hr ih =>
      have h1 := ha.at_ _ _ ht
      have hg' := cell_of (hs.pl hp).blk 0
      have h2 : w.cell? ⟨g', 0, none⟩ = some v := by rw [hg']; simp
      simp [List.mapM_cons, hg2, h1, asAddr, loadVar, hc.agg, h2, ih]
  unfold results
  rw [hf]
  simp only [List.mapM_toArray]
  have h3 : ∀ g : ResultVar → Sem Value, (∀ t, g (.tmp t) = pure (a.tmps.getD t undef)) → (∀ x t, g (.cell x t) = (do loadVar t (← asAddr (a.tmps.getD x undef)))) → (do let vs ← (do let r ← rs.mapM g; pure r.toArray : Sem (Array Value)); pure (if h : vs.size = 1 then vs[0] else .tuple vs) : Sem Value).run P w = .ok (tup vs) w := by
    intro g hg hg2
    simp [key g hg hg2]
    cases vs with
    | nil => rfl
    | cons v l => cases l <;> rfl
  exact h3 _ (fun t => rfl) (fun x t => rfl)
theorem retW_ {fn : Func} {Post : Value → List SA → Prop} {R : SA} {k : List Fr} {L L' : List SA} {rs : List ResultVar} {vs : List Value} (hrs : fn.results = rs.toArray) (hv : RV P env L rs vs) (hP : Post (tup vs) L') (hs : Sel L (L' ++ [R])) :
    WK P E n (Tfin P E fn Post R) (.code .ret :: k) env L := fun a w ha hw => wp_ret (QK_ret.2 ⟨ha.defers, tup vs, L', hv.ok ha hw hrs, hP, hw.sel hs⟩)
theorem retWD_ {fn : Func} {r : Value} {M : List SA} {R : SA} {k : List Fr} {L : List SA} {rs : List ResultVar} {vs : List Value} (hrs : fn.results = rs.toArray) (hv : RV P env L rs vs) (he : tup vs = r) (hs : Sel L (M ++ [R])) :
    WK P E n (Tfin P E fn (fun v L' => v = r ∧ L' = M) R) (.code .ret :: k) env L := retW_ hrs hv ⟨he, rfl⟩ hs
end
section
variable {P : Program} {E : World} {env : En} {ty : TypeId} {ps : String} {af : Array Edge} {gd : Option (Nat × Bool)} {ops : Array Oper} {Q : Exit → Act → World → Prop} {r : Rs} {L : List SA} {n d : Nat}
theorem mf2 {dst : Option Tmp} {fn : Fn} {first cap : List Operand} {f' c' : List Value} (h1 : evs env first = some f') (h2 : evs env cap = some c') : Val P n ⟨dst, .makeFunc fn first.toArray cap.toArray, ty, ps, af, gd⟩ env (.func fn f'.toArray c'.toArray) :=
  mf (fun a ha => by rw [List.map_toArray, evs_ok ha h1]) (fun a ha => by rw [List.map_toArray, evs_ok ha h2])
/-- A call whose result names something new. -/
theorem cg_ {ι : Type} {f : FuncId} [hf : TFn P f] {as : List Operand} {ts : Array TypeId} {args : List Value} {pre F : List SA} {L2 : ι → List SA} {rv : ι → Value} (hargs : evs env as = some args) (hsp : Ctr P f args pre (fun v L' => ∃ g : ι, v = rv g ∧ L' = L2 g)) (hc : Cut L pre F) (hd : Nat.blt d n = true) (hok : okB ops 2 r = true)
    (k : ∀ g, kept r (L2 g ++ F) ∧ WN P E n ops Q (adv r) ((d, rv g) :: env) (L2 g ++ F)) : WB P E n ops Q ⟨some d, .call { callee := .value (.func f), args := as.toArray, argTypes := ts }, ty, ps, af, gd⟩ true r env L :=
  ca_ hargs hsp hc hd hok fun v L1 h => by obtain ⟨g, e1, e2⟩ := h; subst e1 e2; exact k g
/-- A call through a function value, its result told. -/
theorem cfd_ {f : FuncId} [hf : TFn P f] {x : Operand} {cap : List Value} {as : List Operand} {ts : Array TypeId} {args : List Value} {pre F L2 : List SA} {rv : Value} (hx : ev env x = some (.func (.func f) #[] cap.toArray)) (hargs : evs env as = some args) (hsp : Ctr P f (args ++ cap) pre (fun v L' => v = rv ∧ L' = L2)) (hc : Cut L pre F) (hd : Nat.blt d n = true) (hok : okB ops 2 r = true)
    (hk : kept r (L2 ++ F)) (k : WN P E n ops Q (adv r) ((d, rv) :: env) (L2 ++ F)) : WB P E n ops Q ⟨some d, .call { callee := .value x, args := as.toArray, argTypes := ts }, ty, ps, af, gd⟩ true r env L :=
  cf_ hx hargs hsp hc hd hok fun v L1 h => by obtain ⟨e1, e2⟩ := h; subst e1 e2; exact ⟨hk, k⟩
theorem cfg_ {ι : Type} {f : FuncId} [hf : TFn P f] {x : Operand} {cap : List Value} {as : List Operand} {ts : Array TypeId} {args : List Value} {pre F : List SA} {L2 : ι → List SA} {rv : ι → Value} (hx : ev env x = some (.func (.func f) #[] cap.toArray)) (hargs : evs env as = some args) (hsp : Ctr P f (args ++ cap) pre (fun v L' => ∃ g : ι, v = rv g ∧ L' = L2 g)) (hc : Cut L pre F) (hd : Nat.blt d n = true) (hok : okB ops 2 r = true)
    (k : ∀ g, kept r (L2 g ++ F) ∧ WN P E n ops Q (adv r) ((d, rv g) :: env) (L2 g ++ F)) : WB P E n ops Q ⟨some d, .call { callee := .value x, args := as.toArray, argTypes := ts }, ty, ps, af, gd⟩ true r env L :=
  cf_ hx hargs hsp hc hd hok fun v L1 h => by obtain ⟨g, e1, e2⟩ := h; subst e1 e2; exact k g
theorem gCa_ {dst : Option Tmp} {f : FuncId} {as : Array Operand} {ts : Array TypeId} (h : WB P E n ops Q ⟨dst, .call { callee := .value (.func f), args := as, argTypes := ts }, ty, ps, af, gd⟩ true r env L) : WB P E n ops Q ⟨dst, .call { callee := .value (.func f), args := as, argTypes := ts }, ty, ps, af, gd⟩ true r env L := h
theorem gCf_ {dst : Option Tmp} {x : Tmp} {as : Array Operand} {ts : Array TypeId} (h : WB P E n ops Q ⟨dst, .call { callee := .value (.tmp x), args := as, argTypes := ts }, ty, ps, af, gd⟩ true r env L) : WB P E n ops Q ⟨dst, .call { callee := .value (.tmp x), args := as, argTypes := ts }, ty, ps, af, gd⟩ true r env L := h
end
section
variable {P : Program} {E : World} {env : En} {ty : TypeId} {ps : String} {af : Array Edge} {gd : Option (Nat × Bool)} {ops : Array Oper} {Q : Exit → Act → World → Prop} {r : Rs} {L M : List SA} {n d : Nat}
/-- What lies there from the beginning. -/
theorem cell_base {E w w0 : World} {L : List SA} (h : Sat E (base w0 :: L) w) {p : Addr} {v : Value} (hv : w0.cell? p = some v) : w.cell? p = some v := by
  have hb : ∃ o, w0.heap[p.block]? = some o := by
    cases he : w0.heap[p.block]? with
    | some o => exact ⟨o, rfl⟩
    | none => simp [World.cell?, he] at hv
  obtain ⟨o, ho⟩ := hb
  have h2 := h.baseAt ho
  rw [World.cell?_of_block (w := w0) (by rw [h2, ho])]
  exact hv
theorem ldb {t : TypeId} [hc : TCell P t] {dst : Option Tmp} {x : Operand} {p : Addr} {w0 : World} {v : Value} (hx : ev env x = some (.pointer (some p))) (hv : w0.cell? p = some v) :
    ValS P E n ⟨dst, .load t x, ty, ps, af, gd⟩ env [base w0] v := fun a w ha hs => by
  have hg := cell_base hs hv
  simp [execOp, ha.eval hx, Instr.loadAt, Instr.sureAddr, loadVar, hc.agg, hg]
theorem ldb_ {t : TypeId} [hc : TCell P t] {x : Operand} {p : Addr} {w0 : World} {v : Value} (hx : ev env x = some (.pointer (some p))) (hv : w0.cell? p = some v) (hp : Pl (base w0) (vis r L) M)
    (hd : Nat.blt d n = true) (hok : okB ops 1 r = true) (k : WN P E n ops Q r ((d, v) :: env) L) : WB P E n ops Q ⟨some d, .load t x, ty, ps, af, gd⟩ true r env L :=
  s_ (ldb hx hv) (.cons hp .nil) hd hok k
/-- A contract over less. -/
theorem ctr_pre {f : FuncId} {args : List Value} {pre pre' : List SA} {Post : Value → List SA → Prop} (h : ∀ E R w, Sat E (pre' ++ [R]) w → Sat E (pre ++ [R]) w) (hc : Ctr P f args pre Post) : Ctr P f args pre' Post := fun E w R hs => hc E w R (h E R w hs)
/-- A law's walk out of its contract. -/
theorem law_of {f : FuncId} {args : List Value} {w : World} (hc : Ctr P f args [base w] (fun v L => v = .bool true ∧ L = [base w])) : Calls P f args.toArray w fun e w' => e = .returned (.bool true) ∧ Below w.heap.size w w' := by
  have hs : Sat w ([base w] ++ [base w]) w := (Sat.start w).dup (base_dup w)
  refine (hc w w (base w) hs).mono fun e w' h => ?_
  obtain ⟨v, L, he, ⟨hv, hL⟩, hs'⟩ := h
  subst hv hL
  exact ⟨he, hs'.below⟩
end
end Go.SL
