/- Slices all of one's own (nil among them): read, written, cut, appended to. -/
import Derived.Test.YtpghbkkjdfaflaaSt
import Derived.Laws.AppendOwn
import Derived.Laws.MakeOwn
set_option linter.unusedVariables false
set_option linter.unusedSimpArgs false
namespace Go.SL
open Go.RowKit
attribute [local irreducible] WN WB WK Ctr Wn Tfin
/-- An element's type: its cells, its bytes, its zero. -/
class TElem (P : Program) (e : TypeId) (sz : outParam Nat) (bytes : outParam Nat) (z : outParam Value) : Prop where
  info : ∃ i, P.info? e = some i ∧ i.size = sz ∧ i.bytes = bytes ∧ i.zero = some z
theorem elem_of {P : Program} {e : TypeId} {sz bytes : Nat} {z : Value} [h : TInfo P e sz bytes] [hz : TZero P e z] : TElem P e sz bytes z := by
  have h1 := h.info
  cases hi : P.info? e with
  | none => rw [hi] at h1; simp at h1
  | some i =>
    rw [hi] at h1
    simp only [Option.map_some, Option.some.injEq, Prod.mk.injEq] at h1
    have h2 := hz.zero default
    cases hzr : i.zero with
    | none => simp [zeroValue, typeInfo, hi, hzr, Sem.run] at h2
    | some v =>
      have h3 : (zeroValue e).run P (default : World) = .ok v default := by simp [zeroValue, typeInfo, hi, hzr]
      rw [h3] at h2
      cases h2
      exact ⟨i, hi, h1.1, h1.2, hzr⟩
structure VecOk (p : Option Addr) (n c sz : Nat) (l : List Value) : Prop where
  len : l.length = n * sz
  le : n ≤ c
  nil : p = none → n = 0 ∧ c = 0
  one : ∀ v ∈ l, v.oneCell' = true
/-- A slice all of one's own: n elements l, whatever ahead of them, and room for c - n behind them; nil, where p is none. -/
def vec (p : Option Addr) (n c : Nat) (e : TypeId) (sz : Nat) (l : List Value) : SA :=
  ⟨fun _ h => VecOk p n c sz l ∧ ∀ a, p = some a → ∃ (g : Nat) (pre rest : List Value), a = ⟨g, pre.length, none⟩ ∧ (c - n) * sz ≤ rest.length ∧ h = one g (.cells (pre ++ l ++ rest).toArray e (0, 0)), fun _ _ _ _ h => h⟩
theorem vecOk {E w : World} {p : Option Addr} {n c sz : Nat} {e : TypeId} {l : List Value} {L : List SA} (h : Sat E (vec p n c e sz l :: L) w) : VecOk p n c sz l := by
  obtain ⟨_, _, _, s, k, _, _, _, x, y, d, rfl, hx, _⟩ := h
  exact hx.1
theorem ofVec {E w : World} {a : Addr} {n c sz : Nat} {e : TypeId} {l : List Value} {L : List SA} (h : Sat E (vec (some a) n c e sz l :: L) w) :
    ∃ (g : Nat) (pre rest : List Value), a = ⟨g, pre.length, none⟩ ∧ (c - n) * sz ≤ rest.length ∧ Sat E (blk g (.cells (pre ++ l ++ rest).toArray e (0, 0)) :: L) w := by
  obtain ⟨h1, h2, h3, s, k, h4, h5, h6, x, y, d, rfl, ⟨hx, hy⟩, r⟩ := h
  obtain ⟨g, pre, rest, e1, e2, e3⟩ := hy a rfl
  exact ⟨g, pre, rest, e1, e2, h1, h2, h3, s, _, h4, h5, h6, x, y, d, rfl, e3, r⟩
theorem toVec {E w : World} {g n c sz : Nat} {e : TypeId} {pre l rest : List Value} {L : List SA} (ho : VecOk (some ⟨g, pre.length, none⟩) n c sz l) (hr : (c - n) * sz ≤ rest.length)
    (h : Sat E (blk g (.cells (pre ++ l ++ rest).toArray e (0, 0)) :: L) w) : Sat E (vec (some ⟨g, pre.length, none⟩) n c e sz l :: L) w := by
  obtain ⟨h1, h2, h3, s, k, h4, h5, h6, x, y, d, rfl, hx, r⟩ := h
  refine ⟨h1, h2, h3, s, _, h4, h5, h6, x, y, d, rfl, ⟨ho, fun a ha => ?_⟩, r⟩
  cases ha
  exact ⟨g, pre, rest, rfl, hr, hx⟩
theorem toNil {E w : World} {sz : Nat} {e : TypeId} {L : List SA} (h : Sat E L w) : Sat E (vec none 0 0 e sz [] :: L) w :=
  h.imp fun s k hk => ⟨fun _ => none, k, fun _ => .inl rfl, by funext i; simp [join], ⟨⟨by simp, Nat.le_refl _, fun _ => ⟨rfl, rfl⟩, fun v hv => by cases hv⟩, fun a ha => by cases ha⟩, hk⟩
theorem Sat.tl {E w : World} {A : SA} {L : List SA} (h : Sat E (A :: L) w) : Sat E L w := h.imp fun _ _ hk => stars_tail hk
section
variable {P : Program} {E : World} {n : Nat} {env : En} {d : Option Tmp} {ty : TypeId} {ps : String} {af : Array Edge} {gd : Option (Nat × Bool)} {L M : List SA}
theorem zlen {z : Value} {k sz : Nat} (h : z.cells.size = sz) : (Builtin.zeroCells z.cells k).toList.length = k * sz := by
  rw [Array.length_toList, size_zeroCells, h]
/-- What is told of a source of cells. -/
def Src (P : Program) (E : World) (M : List SA) (sz kk k : Nat) (v : Value) (news : List Value) : Prop :=
  ∀ w, Sat E M w → (Builtin.lenOf v).run P w = .ok kk w ∧ (Builtin.firstCells sz k v).run P w = .ok news.toArray w
theorem vec_cell {w : World} {g o m c sz : Nat} {e : TypeId} {l : List Value} (hs : Sat E (vec (some ⟨g, o, none⟩) m c e sz l :: L) w) {j : Nat} {v : Value} (hj : l[j]? = some v) : w.cell? ⟨g, o + j, none⟩ = some v := by
  obtain ⟨g', pre, rest, e1, _, hs1⟩ := ofVec hs
  cases e1
  have hlt : j < l.length := (List.getElem?_eq_some_iff.1 hj).1
  rw [cell_of hs1.blk, List.getElem?_toArray, List.append_assoc, List.getElem?_append_right (by omega), List.getElem?_append_left (by omega)]
  rw [show pre.length + j - pre.length = j from by omega]
  exact hj
/-- A part of what a slice of one's own holds, as a source. -/
theorem srcV {g o m c sz i kk k c2 : Nat} {e : TypeId} {l news : List Value} {q : Option Addr} (hp : Pl (vec (some ⟨g, o, none⟩) m c e sz l) M L) (hq : q = some ⟨g, o + i, none⟩) (hn : news.length = k * sz) (h : ∀ j v, news[j]? = some v → l[i + j]? = some v) :
    Src P E M sz kk k (.slice q kk c2) news := fun w hs => by
  subst hq
  refine ⟨by simp [Builtin.lenOf], run_firstCells_some w sz k _ kk c2 news hn fun j v hj => ?_⟩
  rw [add_pl, Nat.add_assoc]
  exact vec_cell (hs.pl hp) (h j v hj)
theorem srcE {q : Option Addr} {sz kk c2 : Nat} : Src P E M sz kk 0 (.slice q kk c2) [] := fun w hs => by
  refine ⟨by simp [Builtin.lenOf], ?_⟩
  cases q with
  | none => simp [Builtin.firstCells]
  | some a => exact run_firstCells_some w sz 0 a kk c2 [] (by simp) (fun j v hj => by simp at hj)
theorem srcB {g o kk k c2 sz : Nat} {cs : Array Value} {news : List Value} {e : TypeId} {fr : Nat × Nat} {q : Option Addr} (hp : Pl (blk g (.cells cs e fr)) M L) (hq : q = some ⟨g, o, none⟩) (hn : news.length = k * sz) (h : ∀ j v, news[j]? = some v → cs[o + j]? = some v) :
    Src P E M sz kk k (.slice q kk c2) news := fun w hs => by
  subst hq
  refine ⟨by simp [Builtin.lenOf], run_firstCells_some w sz k _ kk c2 news hn fun j v hj => ?_⟩
  rw [add_pl, cell_of (hs.pl hp).blk]
  exact h j v hj
theorem srcR {g o kk k c2 sz : Nat} {cs : Array Value} {news : List Value} {e : TypeId} {fr : Nat × Nat} {q : Option Addr} (hp : Pl (ro g (.cells cs e fr)) M L) (hq : q = some ⟨g, o, none⟩) (hn : news.length = k * sz) (h : ∀ j v, news[j]? = some v → cs[o + j]? = some v) :
    Src P E M sz kk k (.slice q kk c2) news := fun w hs => by
  subst hq
  refine ⟨by simp [Builtin.lenOf], run_firstCells_some w sz k _ kk c2 news hn fun j v hj => ?_⟩
  rw [add_pl, cell_of (hs.pl hp).ro]
  exact h j v hj
theorem srcS {s : ByteArray} : Src P E M 1 s.size s.size (.string s) (s.data.toList.map fun b => Value.int .u8 b.toNat) := fun w hs => by
  refine ⟨by simp [Builtin.lenOf], ?_⟩
  simp only [Builtin.firstCells]
  have : (s.extract 0 s.size) = s := by
    apply ByteArray.ext
    simp
  rw [this]
  have e : (s.data.toList.map fun b => Value.int .u8 b.toNat).toArray = s.data.map fun b => Value.int .u8 b.toNat := by
    apply Array.ext'
    simp
  rw [e]
  simp
theorem Src.mono {sz kk k : Nat} {v : Value} {news : List Value} {M' : List SA} (h : Src P E M sz kk k v news) (hm : ∀ w, Sat E M' w → Sat E M w) : Src P E M' sz kk k v news := fun w hs => h w (hm w hs)
/-- Cells written into a slice's own room. -/
theorem vec_store {w : World} {g o m c sz m' : Nat} {e : TypeId} {l l' : List Value} (hs : Sat E (vec (some ⟨g, o, none⟩) m c e sz l :: L) w) (i : Nat) (vs : List Value) (hv : ∀ v ∈ vs, v.oneCell' = true) (hi : i + vs.length ≤ c * sz)
    (hm : m' ≤ c) (hl' : l'.length = m' * sz) (he : ∀ rest : List Value, (c - m) * sz ≤ rest.length → ∃ rest', (l ++ rest).take i ++ vs ++ (l ++ rest).drop (i + vs.length) = l' ++ rest') (h1' : ∀ v ∈ l', v.oneCell' = true) :
    ∃ w', (storeCells ⟨g, o + i, none⟩ vs).run P w = .ok () w' ∧ Sat E (vec (some ⟨g, o, none⟩) m' c e sz l' :: L) w' := by
  have ho := vecOk hs
  obtain ⟨g', pre, rest, e1, hr, hs1⟩ := ofVec hs
  cases e1
  have hlen : (pre ++ l ++ rest).toArray.size = pre.length + l.length + rest.length := by simp; omega
  have hsum : m * sz + (c - m) * sz = c * sz := by rw [← Nat.add_mul]; congr 1; have := ho.le; omega
  have hl := ho.len
  obtain ⟨w', hrun, hs2⟩ := storeCells_blk (P := P) (o := pre.length + i) vs 0 _ w hs1 (by rw [hlen]; omega) hv
  refine ⟨w', hrun, ?_⟩
  obtain ⟨rest', hrest⟩ := he rest hr
  have key : overL (pre ++ l ++ rest).toArray (pre.length + i + 0) vs = (pre ++ l' ++ rest').toArray := by
    apply Array.toList_inj.1
    rw [overL_toList vs _ _ (by rw [hlen]; omega)]
    show (pre ++ l ++ rest).take (pre.length + i + 0) ++ vs ++ (pre ++ l ++ rest).drop (pre.length + i + 0 + vs.length) = pre ++ l' ++ rest'
    rw [List.append_assoc pre, Nat.add_zero, List.take_length_add_append, Nat.add_assoc, List.drop_length_add_append]
    simp only [List.append_assoc] at hrest ⊢
    rw [hrest]
  rw [key] at hs2
  have h5 : (c - m') * sz ≤ rest'.length := by
    have h3 := congrArg List.length hrest
    simp only [List.length_append, List.length_take, List.length_drop] at h3
    have h4 : m' * sz + (c - m') * sz = c * sz := by rw [← Nat.add_mul]; congr 1; omega
    omega
  exact toVec ⟨hl', hm, fun h => (by cases h), h1'⟩ h5 hs2
/-- Elements behind those of a slice of one's own. -/
theorem ap {t e t2 : TypeId} {sz bytes : Nat} {z : Value} [ht : TSlc P t e] [he : TElem P e sz bytes z] (hzs : z.cells.size = sz) (hni : P.underlying t2 = some .string ∨ ∃ e2, P.underlying t2 = some (.slice e2)) {x y : Operand} {p : Option Addr} {m c : Nat} {l : List Value} {k : Nat} {yv : Value} {news : List Value}
    (hx : ev env x = some (.slice p m c)) (hy : ev env y = some yv) (hp : Pl (vec p m c e sz l) L M) (hsrc : Src P E L sz k k yv news)
    (hl : news.length = k * sz) (h1 : ∀ u ∈ news, u.oneCell' = true) (hb : (m + k) * bytes ≤ 140737488355328) (h63 : m + k ≤ 9223372036854775807) :
    Does P E n ⟨d, .call { callee := .builtin .append, args := #[x, y], argTypes := #[t, t2] }, ty, ps, af, gd⟩ env L (fun u L' => ∃ q : Option Addr × Nat, u = .slice q.1 (m + k) q.2 ∧ L' = vec q.1 (m + k) q.2 e sz (l ++ news) :: M) := does_value fun a' w ha hs => by
  obtain ⟨i, hi, rfl, rfl, hz⟩ := he.info
  have hs1 := hs.pl hp
  have ho := vecOk hs1
  obtain ⟨q1, q2⟩ := hsrc w hs
  have q3 := (hsrc w.drew hs.drew).2
  have hrun : ∀ v' w', (Builtin.append_ #[t, t2] ty #[.slice p m c, yv]).run P w = .ok v' w' → (execOp a'.eval ⟨d, .call { callee := .builtin .append, args := #[x, y], argTypes := #[t, t2] }, ty, ps, af, gd⟩).run P w = .ok (.value v') w' := fun v' w' hr => by
    simp [execOp, resolve, invoke, builtin, ha.eval hx, ha.eval hy, hr]
  have hlen2 : (l ++ news).length = (m + k) * i.size := by rw [List.length_append, ho.len, hl, Nat.add_mul]
  have h1' : ∀ u ∈ l ++ news, u.oneCell' = true := fun u hu => by
    rcases List.mem_append.1 hu with hu | hu
    · exact ho.one u hu
    · exact h1 u hu
  by_cases hroom : m + k ≤ c
  · cases p with
    | none =>
      have hn := ho.nil rfl
      have hm0 : m = 0 := hn.1
      have hc0 : c = 0 := hn.2
      have hk0 : k = 0 := by omega
      subst hm0 hc0 hk0
      have hnews : news = [] := List.eq_nil_of_length_eq_zero (by omega)
      subst hnews
      refine ⟨_, _, w, hrun (.slice none 0 0) w ?_, ⟨(none, 0), rfl, rfl⟩, ?_⟩
      · rcases hni with hu2 | ⟨e2, hu2⟩ <;> simp [Builtin.append_, run_underlying ht.und, run_underlying hu2, sizeOf, typeInfo, hi, q1, q2]
      · rw [List.append_nil]; exact hs1
    | some a =>
      obtain ⟨g, pre, rest, e1, hr, hs2⟩ := ofVec hs1
      subst e1
      have hcm : (m + k) * i.size ≤ c * i.size := Nat.mul_le_mul_right _ hroom
      rw [Nat.add_mul] at hcm
      obtain ⟨w', hst, hs3⟩ := vec_store (P := P) hs1 (m * i.size) news h1 (by omega) (l' := l ++ news) (m' := m + k) hroom hlen2 (fun rest hr => ⟨rest.drop news.length, by
        have hL := ho.len
        rw [← hL, List.take_left, List.drop_append, List.drop_eq_nil_of_le (by omega)]
        simp⟩) h1'
      refine ⟨_, _, w', hrun (.slice (some ⟨g, pre.length, none⟩) (m + k) c) w' ?_, ⟨(_, c), rfl, rfl⟩, hs3⟩
      have hst' : (storeCells ((⟨g, pre.length, none⟩ : Addr).add (m * i.size)) news).run P w = .ok () w' := by rw [add_pl]; exact hst
      rcases hni with hu2 | ⟨e2, hu2⟩ <;> simp [Builtin.append_, run_underlying ht.und, run_underlying hu2, sizeOf, typeInfo, hi, q1, q2, hroom, hst']
  · have hold : (Builtin.firstCells i.size m (.slice p m c)).run P w.drew = .ok l.toArray w.drew := by
      cases p with
      | none =>
        have hl0 : l = [] := List.eq_nil_of_length_eq_zero (by have := ho.nil rfl; rw [ho.len, this.1]; omega)
        subst hl0
        simp [Builtin.firstCells]
      | some a =>
        obtain ⟨g, pre, rest, e1, hr, hs2⟩ := ofVec hs1
        subst e1
        refine run_firstCells_some w.drew i.size m _ m c l ho.len fun j v hj => ?_
        rw [add_pl]
        exact vec_cell hs1.drew hj
    have h63' : ¬ (9223372036854775807 < ((m : Int) + (k : Int))) := by omega
    have hfit := growslice_fits (bytes := i.bytes) (need := m + k) (old := c) (by omega) hb
    have h48' : ¬ (281474976710656 < Builtin.nextslicecap (m + k) c * i.bytes) := by omega
    refine ⟨_, _, w.drew.alloc (.cells (l.toArray ++ (news.toArray ++ Builtin.zeroCells z.cells (grownCap w (m + k) c e - (m + k)))) e), hrun (.slice (some ⟨w.heap.size, 0, none⟩) (m + k) (grownCap w (m + k) c e)) _ ?_, ⟨(some ⟨w.heap.size, 0, none⟩, grownCap w (m + k) c e), rfl, rfl⟩, ?_⟩
    · have hn : ¬ (m + k ≤ c) := hroom
      rcases hni with hu2 | ⟨e2, hu2⟩ <;> simp [Builtin.append_, run_underlying ht.und, run_underlying hu2, sizeOf, typeInfo, zeroValue, hi, hz, q1, hn, h63', h48', Question.forced, hold, q3, newRow, grownCap]
    · have hn := (hs1.tl).drew.new (.cells (l.toArray ++ (news.toArray ++ Builtin.zeroCells z.cells (grownCap w (m + k) c e - (m + k)))) e (0, 0)) (w.drew.alloc (.cells (l.toArray ++ (news.toArray ++ Builtin.zeroCells z.cells (grownCap w (m + k) c e - (m + k)))) e)) rfl rfl rfl rfl
      have e1 : (l.toArray ++ (news.toArray ++ Builtin.zeroCells z.cells (grownCap w (m + k) c e - (m + k)))) = ([] ++ (l ++ news) ++ (Builtin.zeroCells z.cells (grownCap w (m + k) c e - (m + k))).toList).toArray := by
        apply Array.ext'
        simp
      rw [e1] at hn ⊢
      exact toVec (pre := []) ⟨hlen2, grownCap_ge w (m + k) c e, fun h => (by cases h), h1'⟩ (by rw [zlen hzs]; exact Nat.le_refl _) hn

/-- Where a part of a slice begins. -/
def offp (p : Option Addr) (c i sz : Nat) : Option Addr := if c = i then p else p.map (·.add (i * sz))
theorem offp_none {c i sz : Nat} : offp none c i sz = none := by unfold offp; split <;> rfl
theorem offp_pl {g o c i sz : Nat} (h : c ≠ i) : offp (some ⟨g, o, none⟩) c i sz = some ⟨g, o + i * sz, none⟩ := by unfold offp; rw [if_neg h]; simp [add_pl]
theorem offp_zero {p : Option Addr} {c sz : Nat} : offp p c 0 sz = p := by
  unfold offp
  split
  · rfl
  · cases p <;> simp [Addr.add]
theorem slH {t e : TypeId} {sz : Nat} [hs : TSlc P t e] [hz : TSize P e sz] {x y : Operand} {p : Option Addr} {l c : Nat} {k : IntKind} {j : Int} (hx : ev env x = some (.slice p l c)) (hy : ev env y = some (.int k j)) (h0 : 0 ≤ j) (h1 : j ≤ c) : Val P n ⟨d, .slice t x none (some y) none, ty, ps, af, gd⟩ env (.slice p j.toNat c) := by
  have := slL (P := P) (n := n) (d := d) (ty := ty) (ps := ps) (af := af) (gd := gd) (t := t) (e := e) (sz := sz) (lo := none) (hi := some y) 0 j hx rfl ⟨k, hy⟩ (by omega) h0 h1
  have e1 : (if c = (0 : Int).toNat then p else p.map (·.add ((0 : Int).toNat * sz))) = p := offp_zero (c := c) (sz := sz)
  rw [e1] at this
  exact this
theorem slI {t e : TypeId} {sz : Nat} [hs : TSlc P t e] [hz : TSize P e sz] {x y : Operand} {p : Option Addr} {l c : Nat} {k : IntKind} {i : Int} (hx : ev env x = some (.slice p l c)) (hy : ev env y = some (.int k i)) (h0 : 0 ≤ i) (h1 : i ≤ l) (h2 : l ≤ c) : Val P n ⟨d, .slice t x (some y) none none, ty, ps, af, gd⟩ env (.slice (offp p c i.toNat sz) (l - i.toNat) (c - i.toNat)) := by
  have := slL (P := P) (n := n) (d := d) (ty := ty) (ps := ps) (af := af) (gd := gd) (t := t) (e := e) (sz := sz) (lo := some y) (hi := none) i l hx ⟨k, hy⟩ rfl h0 h1 (by omega)
  exact this
theorem slIH {t e : TypeId} {sz : Nat} [hs : TSlc P t e] [hz : TSize P e sz] {x y y' : Operand} {p : Option Addr} {l c : Nat} {k k' : IntKind} {i j : Int} (hx : ev env x = some (.slice p l c)) (hy : ev env y = some (.int k i)) (hy' : ev env y' = some (.int k' j)) (h0 : 0 ≤ i) (h1 : i ≤ j) (h2 : j ≤ c) : Val P n ⟨d, .slice t x (some y) (some y') none, ty, ps, af, gd⟩ env (.slice (offp p c i.toNat sz) (j.toNat - i.toNat) (c - i.toNat)) := by
  have := slL (P := P) (n := n) (d := d) (ty := ty) (ps := ps) (af := af) (gd := gd) (t := t) (e := e) (sz := sz) (lo := some y) (hi := some y') i j hx ⟨k, hy⟩ ⟨k', hy'⟩ h0 h1 h2
  exact this
theorem slIHM {t e : TypeId} {sz : Nat} [hs : TSlc P t e] [hz : TSize P e sz] {x y y' y'' : Operand} {p : Option Addr} {l c : Nat} {k k' k'' : IntKind} {i j m : Int} (hx : ev env x = some (.slice p l c)) (hy : ev env y = some (.int k i)) (hy' : ev env y' = some (.int k' j)) (hy'' : ev env y'' = some (.int k'' m)) (h0 : 0 ≤ i) (h1 : i ≤ j) (h2 : j ≤ m) (h3 : m ≤ c) : Val P n ⟨d, .slice t x (some y) (some y') (some y''), ty, ps, af, gd⟩ env (.slice (offp p m.toNat i.toNat sz) (j.toNat - i.toNat) (m.toNat - i.toNat)) := fun a w ha => by
  have e1 : 0 ≤ m ∧ m ≤ (c : Int) := ⟨by omega, h3⟩
  have e2 : 0 ≤ j ∧ j ≤ ((m.toNat : Nat) : Int) := ⟨by omega, by omega⟩
  have e3 : 0 ≤ i ∧ i ≤ ((j.toNat : Nat) : Int) := ⟨h0, by omega⟩
  have r1 := fun w => show (Instr.sliceBound (.int k'' m) c .slice3Acap).run P w = .ok m.toNat w by simp [Instr.sliceBound, asIntOf, e1]
  have r2 := fun w => show (Instr.sliceBound (.int k' j) m.toNat .slice3B).run P w = .ok j.toNat w by
    simp only [Instr.sliceBound, asIntOf]
    simp only [pure_bind]
    rw [if_pos e2]; simp
  have r3 := fun w => show (Instr.sliceBound (.int k i) j.toNat .slice3C).run P w = .ok i.toNat w by
    simp only [Instr.sliceBound, asIntOf]
    simp only [pure_bind]
    rw [if_pos e3]; simp
  simp [execOp, ha.eval hx, ha.eval hy, ha.eval hy', ha.eval hy'', Instr.sliceAt, Instr.slice, run_und hs.und, Instr.sliceBounds, r1, r2, r3, hz.size, offp]
/-- A slice's elements taken out: what is behind them goes where they stood. -/
theorem apSelf {t e : TypeId} {sz bytes : Nat} {z : Value} [ht : TSlc P t e] [he : TElem P e sz bytes z] {x y : Operand} {p : Option Addr} {m c i j c2 : Nat} {l : List Value}
    (hx : ev env x = some (.slice p i c)) (hy : ev env y = some (.slice (offp p c j sz) (m - j) c2)) (hp : Pl (vec p m c e sz l) L M) (hij : i ≤ j) (hj : j ≤ m) :
    Does P E n ⟨d, .call { callee := .builtin .append, args := #[x, y], argTypes := #[t, t] }, ty, ps, af, gd⟩ env L (fun u L' => u = .slice p (i + (m - j)) c ∧ L' = vec p (i + (m - j)) c e sz (l.take (i * sz) ++ l.drop (j * sz)) :: M) := does_value fun a' w ha hs => by
  obtain ⟨i', hi, rfl, rfl, hz⟩ := he.info
  have hs1 := hs.pl hp
  have ho := vecOk hs1
  have hle := ho.le
  have hlen := ho.len
  have hmul1 : i * i'.size ≤ j * i'.size := Nat.mul_le_mul_right _ hij
  have hmul2 : j * i'.size ≤ m * i'.size := Nat.mul_le_mul_right _ hj
  have hmul3 : m * i'.size ≤ c * i'.size := Nat.mul_le_mul_right _ hle
  have hmj : (m - j) * i'.size = m * i'.size - j * i'.size := Nat.sub_mul ..
  have hn2 : (l.drop (j * i'.size)).length = (m - j) * i'.size := by rw [List.length_drop, hlen, hmj]
  have hrun : ∀ v' w', (Builtin.append_ #[t, t] ty #[.slice p i c, .slice (offp p c j i'.size) (m - j) c2]).run P w = .ok v' w' → (execOp a'.eval ⟨d, .call { callee := .builtin .append, args := #[x, y], argTypes := #[t, t] }, ty, ps, af, gd⟩).run P w = .ok (.value v') w' := fun v' w' hr => by
    simp [execOp, resolve, invoke, builtin, ha.eval hx, ha.eval hy, hr]
  have hroom : i + (m - j) ≤ c := by omega
  cases p with
  | none =>
    have hn := ho.nil rfl
    obtain ⟨hm0, hc0⟩ := hn
    subst hm0 hc0
    have hi0 : i = 0 := by omega
    have hj0 : j = 0 := by omega
    subst hi0 hj0
    have hl0 : l = [] := List.eq_nil_of_length_eq_zero (by omega)
    subst hl0
    refine ⟨_, _, w, hrun (.slice none 0 0) w ?_, ⟨rfl, rfl⟩, ?_⟩
    · rw [offp_none]
      simp [Builtin.append_, run_underlying ht.und, sizeOf, typeInfo, hi, Builtin.lenOf, Builtin.firstCells]
    · simpa using hs1
  | some a =>
    obtain ⟨g, pre, rest, e1, hr, hs2⟩ := ofVec hs1
    subst e1
    have hsrc : (Builtin.firstCells i'.size (m - j) (.slice (offp (some ⟨g, pre.length, none⟩) c j i'.size) (m - j) c2)).run P w = .ok (l.drop (j * i'.size)).toArray w := by
      by_cases h0 : m - j = 0
      · have := srcE (P := P) (E := E) (M := L) (q := offp (some ⟨g, pre.length, none⟩) c j i'.size) (sz := i'.size) (kk := m - j) (c2 := c2) w hs
        have hd : l.drop (j * i'.size) = [] := List.eq_nil_of_length_eq_zero (by rw [hn2, h0]; simp)
        rw [hd]
        rw [h0] at this ⊢
        exact this.2
      · exact (srcV (P := P) (k := m - j) (kk := m - j) (c2 := c2) (i := j * i'.size) hp (offp_pl (by omega)) hn2 (fun q v hq => by rw [List.getElem?_drop] at hq; exact hq) w hs).2
    obtain ⟨w', hst, hs3⟩ := vec_store (P := P) hs1 (i * i'.size) (l.drop (j * i'.size)) (fun v hv => ho.one v (List.mem_of_mem_drop hv)) (by rw [hn2]; omega) (l' := l.take (i * i'.size) ++ l.drop (j * i'.size)) (m' := i + (m - j)) hroom
      (by rw [List.length_append, List.length_take, hn2, Nat.add_mul]; congr 1; omega) (fun rest hr => ⟨(l ++ rest).drop (i * i'.size + (l.drop (j * i'.size)).length), by
        rw [List.take_append_of_le_length (by omega)]⟩) (fun v hv => by
        rcases List.mem_append.1 hv with hv | hv
        · exact ho.one v (List.mem_of_mem_take hv)
        · exact ho.one v (List.mem_of_mem_drop hv))
    refine ⟨_, _, w', hrun (.slice (some ⟨g, pre.length, none⟩) (i + (m - j)) c) w' ?_, ⟨rfl, rfl⟩, hs3⟩
    have hst' : (storeCells ((⟨g, pre.length, none⟩ : Addr).add (i * i'.size)) (l.drop (j * i'.size))).run P w = .ok () w' := by rw [add_pl]; exact hst
    simp [Builtin.append_, run_underlying ht.und, sizeOf, typeInfo, hi, Builtin.lenOf, hsrc, hroom, hst']
/-- Room behind a slice's elements is made blank. -/
theorem clr {t e : TypeId} {sz bytes : Nat} {z : Value} [ht : TSlc P t e] [he : TElem P e sz bytes z] (hzs : z.cells.size = sz) (hz1 : z.cells.toList.all (·.oneCell') = true) {x : Operand} {p : Option Addr} {m c k c2 : Nat} {l : List Value}
    (hx : ev env x = some (.slice (offp p c m sz) k c2)) (hp : Pl (vec p m c e sz l) L M) (hk : m + k ≤ c) :
    Does P E n ⟨d, .call { callee := .builtin .clear, args := #[x], argTypes := #[t] }, ty, ps, af, gd⟩ env L (fun u L' => u = .tuple #[] ∧ L' = vec p m c e sz l :: M) := does_value fun a' w ha hs => by
  obtain ⟨i', hi, rfl, rfl, hz⟩ := he.info
  have hs1 := hs.pl hp
  have ho := vecOk hs1
  have hrun : ∀ v' w', (Builtin.clear_ #[t] ty #[.slice (offp p c m i'.size) k c2]).run P w = .ok v' w' → (execOp a'.eval ⟨d, .call { callee := .builtin .clear, args := #[x], argTypes := #[t] }, ty, ps, af, gd⟩).run P w = .ok (.value v') w' := fun v' w' hr => by
    simp [execOp, resolve, invoke, builtin, ha.eval hx, hr]
  by_cases h0 : k = 0
  · subst h0
    refine ⟨_, _, w, hrun (.tuple #[]) w ?_, ⟨rfl, rfl⟩, hs1⟩
    cases hq : offp p c m i'.size <;> simp [Builtin.clear_, run_underlying ht.und]
  · cases p with
    | none => have := ho.nil rfl; omega
    | some a =>
      obtain ⟨g, pre, rest, e1, hr, hs2⟩ := ofVec hs1
      subst e1
      have hzl : (Builtin.zeroCells z.cells k).toList.length = k * i'.size := zlen hzs
      have hmk : (m + k) * i'.size ≤ c * i'.size := Nat.mul_le_mul_right _ hk
      rw [Nat.add_mul] at hmk
      have hL := ho.len
      have hall : ∀ v ∈ (Builtin.zeroCells z.cells k).toList, v.oneCell' = true := fun v hv => by
        simp only [Builtin.zeroCells, Array.toList_map, List.mem_map] at hv
        obtain ⟨q, hq, rfl⟩ := hv
        have hpos : 0 < z.cells.size := by
          simp only [Array.toList_range, List.mem_range] at hq
          rcases Nat.eq_zero_or_pos z.cells.size with h | h
          · rw [h] at hq; simp at hq
          · exact h
        have hlt := Nat.mod_lt q hpos
        rw [getElem!_pos z.cells (q % z.cells.size) hlt]
        exact List.all_eq_true.1 hz1 _ (Array.getElem_mem_toList hlt)
      obtain ⟨w', hst, hs3⟩ := vec_store (P := P) hs1 (m * i'.size) (Builtin.zeroCells z.cells k).toList hall (by rw [hzl]; omega) (l' := l) (m' := m) ho.le hL (fun rest hr => ⟨(Builtin.zeroCells z.cells k).toList ++ (l ++ rest).drop (m * i'.size + (Builtin.zeroCells z.cells k).toList.length), by
        rw [← hL, List.take_left, List.append_assoc]⟩) ho.one
      refine ⟨_, _, w', hrun (.tuple #[]) w' ?_, ⟨rfl, rfl⟩, hs3⟩
      rw [offp_pl (by omega)]
      cases k with
      | zero => exact absurd rfl h0
      | succ k => simp [Builtin.clear_, run_underlying ht.und, zeroValue, typeInfo, hi, hz, hst]
end
/-! ### Steps -/
theorem adq {g a b : Nat} (h : a = b) : (⟨g, a, none⟩ : Addr) = ⟨g, b, none⟩ := by rw [h]
theorem at1o {g o s j : Nat} {i : Int} : ((⟨g, o, none⟩ : Addr).add (i.toNat * s)).add j = ⟨g, o + (i.toNat * s + j), none⟩ := by rw [add_pl, add_pl, Nat.add_assoc]
theorem at0o {g o s : Nat} {i : Int} : (⟨g, o, none⟩ : Addr).add (i.toNat * s) = ⟨g, o + (i.toNat * s + 0), none⟩ := by rw [add_pl, Nat.add_zero]
section
variable {P : Program} {E : World} {n : Nat} {env : En} {d : Nat} {ty : TypeId} {ps : String} {af : Array Edge} {gd : Option (Nat × Bool)} {ops : Array Oper} {Q : Exit → Act → World → Prop} {r : Rs} {L M : List SA} {T : Act → World → Prop} {k : List Fr}
variable {α : Type} {row : α → List Value} {sz : Nat}
/-- What a slice of one's own is told of. -/
theorem vfact_ {p : Option Addr} {m c : Nat} {e : TypeId} {l : List Value} (hp : Pl (vec p m c e sz l) L M) (h : VecOk p m c sz l → WK P E n T k env L) : WK P E n T k env L := by
  unfold WK at h ⊢
  exact fun a w ha hs => h (vecOk (hs.pl hp)) a w ha hs
theorem vat {p : Option Addr} {m c : Nat} {e : TypeId} {l : List Value} {w : World} (hs : Sat E (vec p m c e sz l :: L) w) (h0 : 0 < c) : ∃ g o, p = some ⟨g, o, none⟩ := by
  cases p with
  | none => have := (vecOk hs).nil rfl; omega
  | some a => obtain ⟨g, pre, rest, e1, _, _⟩ := ofVec hs; exact ⟨g, pre.length, by rw [e1]⟩
/-- It lies somewhere, if it holds something. -/
theorem vsome_ {p : Option Addr} {m c : Nat} {e : TypeId} {l : List Value} (hp : Pl (vec p m c e sz l) L M) (h0 : 0 < m) (h : ∀ g o, p = some ⟨g, o, none⟩ → WK P E n T k env L) : WK P E n T k env L := by
  unfold WK at h ⊢
  intro a w ha hs
  have hv := hs.pl hp
  obtain ⟨g, o, e1⟩ := vat hv (by have := (vecOk hv).le; omega)
  exact h g o e1 a w ha hs
theorem does_imp {R R' : Value → List SA → Prop} {dd : Option Tmp} {op : Op} (h : Does P E n ⟨dd, op, ty, ps, af, gd⟩ env L R) (hi : ∀ v L' w, R v L' → Sat E L' w → ∃ L'', R' v L'' ∧ Sat E L'' w) : Does P E n ⟨dd, op, ty, ps, af, gd⟩ env L R' := by
  intro a w ha hs next Q hk
  refine h a w ha hs next Q fun v L' w' hR hs' => ?_
  obtain ⟨L'', h1, h2⟩ := hi v L' w' hR hs'
  exact hk v L'' w' h1 h2
theorem vsomeB_ {wn : Bool} {o' : Oper} {p : Option Addr} {m c : Nat} {e : TypeId} {l : List Value} (hp : Pl (vec p m c e sz l) L M) (h0 : 0 < m) (h : ∀ g o, p = some ⟨g, o, none⟩ → WB P E n ops Q o' wn r env L) : WB P E n ops Q o' wn r env L := by
  unfold WB at h ⊢
  intro h1 h2
  have hv : ∀ w, Sat E L w → ∃ g o, p = some ⟨g, o, none⟩ := fun w hs => vat (hs.pl hp) (by have := (vecOk (hs.pl hp)).le; omega)
  cases r with
  | plain rest => exact fun a w ha hs => by obtain ⟨g, o, e1⟩ := hv w hs; exact h g o e1 h1 h2 a w ha hs
  | draw Ls ds fuel b i pi => exact fun hi a w ha hs hS => by obtain ⟨g, o, e1⟩ := hv w hs; exact h g o e1 h1 h2 hi a w ha hs hS
  | tail Ls ds fuel b i pi => exact fun hi a w ha hs => by obtain ⟨g, o, e1⟩ := hv w hs; exact h g o e1 h1 h2 hi a w ha hs
  | fork Ls ds fuel b i pi => exact fun hi a w ha hs hS => by obtain ⟨g, o, e1⟩ := hv w hs; exact h g o e1 h1 h2 hi a w ha hs hS
theorem wn_fact {φ : Prop} (hf : ∀ w, Sat E L w → φ) (h : φ → WN P E n ops Q r env L) : WN P E n ops Q r env L := by
  unfold WN at h ⊢
  cases r with
  | plain rest => exact fun a w ha hs => h (hf w hs) a w ha hs
  | draw Ls ds fuel b i pi => exact fun a w ha hs hS => h (hf w hs) a w ha hs hS
  | tail Ls ds fuel b i pi => exact fun a w ha hs => h (hf w hs) a w ha hs
  | fork Ls ds fuel b i pi => exact fun a w ha hs hS => h (hf w hs) a w ha hs hS
theorem wk_fact {φ : Prop} (hf : ∀ w, Sat E L w → φ) (h : φ → WK P E n T k env L) : WK P E n T k env L := by
  unfold WK at h ⊢
  exact fun a w ha hs => h (hf w hs) a w ha hs
theorem ldV {t : TypeId} [hc : TCell P t] {dst : Option Tmp} {x : Operand} {g o m c j : Nat} {e : TypeId} {l : List Value} {v : Value} (hx : ev env x = some (.pointer (some ⟨g, o + j, none⟩))) (hv : l[j]? = some v) :
    ValS P E n ⟨dst, .load t x, ty, ps, af, gd⟩ env [vec (some ⟨g, o, none⟩) m c e sz l] v := fun a w ha hs => by
  have hg := vec_cell hs hv
  simp [execOp, ha.eval hx, Instr.loadAt, Instr.sureAddr, loadVar, hc.agg, hg]
theorem ldVA {t : TypeId} {q : Nat} [hc : TAgg P t q] {dst : Option Tmp} {x : Operand} {g o m c j : Nat} {e : TypeId} {l vs : List Value} (hx : ev env x = some (.pointer (some ⟨g, o + j, none⟩))) (hl : vs.length = q) (hv : ∀ i v, vs[i]? = some v → l[j + i]? = some v) :
    ValS P E n ⟨dst, .load t x, ty, ps, af, gd⟩ env [vec (some ⟨g, o, none⟩) m c e sz l] (.agg vs.toArray) := fun a w ha hs => by
  have h2 := run_loadCells_list (P := P) (w := w) ⟨g, o + j, none⟩ vs (fun i v hi => by rw [add_pl, Nat.add_assoc]; exact vec_cell hs (hv i v hi))
  rw [hl] at h2
  simp [execOp, ha.eval hx, Instr.loadAt, Instr.sureAddr, loadVar, hc.agg, hc.size, h2]
/-- A cell of a row. -/
theorem w_lvc {t : TypeId} [hc : TCell P t] {x : Operand} {q : Addr} {g o m c i j : Nat} {e : TypeId} {xs : List α} {b : α} {v : Value} (hx : ev env x = some (.pointer (some q)) := by exact rfl) (ho : q = ⟨g, o + (i * sz + j), none⟩ := by first | exact at1o | exact at0o)
    (hp : Pl (vec (some ⟨g, o, none⟩) m c e sz (rowsL row xs)) (vis r L) M := by ((repeat (first | exact .head | apply Pl.tail)); first | done | fail)) (hi : xs[i]? = some b := by first | assumption | exact List.getElem?_concat_length | simp) (hrow : ∀ a, (row a).length = sz := by intro _; exact rfl) (hv : nth (row b) j = some v := by exact rfl) (hd : Nat.blt d n = true := by exact rfl) (hok : okB ops 1 r = true := by kernel_rfl)
    (k : WN P E n ops Q r ((d, v) :: env) L) : WB P E n ops Q ⟨some d, .load t x, ty, ps, af, gd⟩ true r env L := by
  subst ho
  rw [← nth_eq] at hv
  have hj : j < sz := by rw [← hrow b]; exact (List.getElem?_eq_some_iff.1 hv).1
  exact s_ (ldV hx (by rw [rows_get hrow xs i j b hi hj]; exact hv)) (.cons hp .nil) hd hok k
/-- A whole row. -/
theorem w_lvA {t : TypeId} [hc : TAgg P t sz] {x : Operand} {q : Addr} {g o m c i : Nat} {e : TypeId} {xs : List α} {b : α} (hx : ev env x = some (.pointer (some q)) := by exact rfl) (ho : q = ⟨g, o + (i * sz + 0), none⟩ := by exact at0o)
    (hp : Pl (vec (some ⟨g, o, none⟩) m c e sz (rowsL row xs)) (vis r L) M := by ((repeat (first | exact .head | apply Pl.tail)); first | done | fail)) (hi : xs[i]? = some b := by first | assumption | exact List.getElem?_concat_length | simp) (hrow : ∀ a, (row a).length = sz := by intro _; exact rfl) (hd : Nat.blt d n = true := by exact rfl) (hok : okB ops 1 r = true := by kernel_rfl)
    (k : WN P E n ops Q r ((d, .agg (row b).toArray) :: env) L) : WB P E n ops Q ⟨some d, .load t x, ty, ps, af, gd⟩ true r env L := by
  subst ho
  refine s_ (ldVA hx (hrow b) (fun j v hj => ?_)) (.cons hp .nil) hd hok k
  have hlt : j < sz := by rw [← hrow b]; exact (List.getElem?_eq_some_iff.1 hj).1
  rw [Nat.add_zero, rows_get hrow xs i j b hi hlt]
  exact hj
/-! ### Steps that write -/
theorem rowsL_app (xs ys : List α) : rowsL row (xs ++ ys) = rowsL row xs ++ rowsL row ys := by simp [rowsL]
theorem rowsL_cons (x : α) (ys : List α) : rowsL row (x :: ys) = row x ++ rowsL row ys := by simp [rowsL]
theorem rowsL_take (h : ∀ a, (row a).length = sz) (xs : List α) (i : Nat) (hi : i ≤ xs.length) : (rowsL row xs).take (i * sz) = rowsL row (xs.take i) := by
  have e : xs = xs.take i ++ xs.drop i := (List.take_append_drop i xs).symm
  have hl : (rowsL row (xs.take i)).length = i * sz := by rw [rows_length h, List.length_take]; congr 1; omega
  conv => lhs; rw [e, rowsL_app, ← hl]
  rw [List.take_left]
theorem rowsL_drop (h : ∀ a, (row a).length = sz) (xs : List α) (i : Nat) (hi : i ≤ xs.length) : (rowsL row xs).drop (i * sz) = rowsL row (xs.drop i) := by
  have e : xs = xs.take i ++ xs.drop i := (List.take_append_drop i xs).symm
  have hl : (rowsL row (xs.take i)).length = i * sz := by rw [rows_length h, List.length_take]; congr 1; omega
  conv => lhs; rw [e, rowsL_app, ← hl]
  rw [List.drop_left]
theorem rowsL_set (h : ∀ a, (row a).length = sz) (xs : List α) (i : Nat) (b b' : α) (hi : xs[i]? = some b) (j : Nat) (vs : List Value) (hb : (row b).take j ++ vs ++ (row b).drop (j + vs.length) = row b') (hj : j + vs.length ≤ sz) (rest : List Value) :
    (rowsL row xs ++ rest).take (i * sz + j) ++ vs ++ (rowsL row xs ++ rest).drop (i * sz + j + vs.length) = rowsL row (xs.set i b') ++ rest := by
  have hlt : i < xs.length := (List.getElem?_eq_some_iff.1 hi).1
  have hb0 : xs[i] = b := (List.getElem?_eq_some_iff.1 hi).2
  have e : xs = xs.take i ++ b :: xs.drop (i + 1) := by rw [← hb0, List.getElem_cons_drop, List.take_append_drop]
  have e2 : xs.set i b' = xs.take i ++ b' :: xs.drop (i + 1) := by
    rw [List.set_eq_take_append_cons_drop, if_pos hlt]
  have hl : (rowsL row (xs.take i)).length = i * sz := by rw [rows_length h, List.length_take]; congr 1; omega
  have hbl := h b
  rw [e2, rowsL_app, rowsL_cons, ← hb]
  conv => lhs; rw [e, rowsL_app, rowsL_cons, ← hl]
  simp only [List.append_assoc]
  rw [List.take_length_add_append, Nat.add_assoc, List.drop_length_add_append]
  rw [List.take_append_of_le_length (by omega), List.drop_append_of_le_length (by omega)]
  simp only [List.append_assoc]
theorem stVg {t : TypeId} {q : Nat} [hz : TSize P t q] {dst : Option Tmp} {x y : Operand} {g o m c i j : Nat} {e : TypeId} {xs : List α} {b b' : α} {v : Value} (hrow : ∀ a, (row a).length = sz) (hx : ev env x = some (.pointer (some ⟨g, o + (i * sz + j), none⟩))) (hy : ev env y = some v) (hp : Pl (vec (some ⟨g, o, none⟩) m c e sz (rowsL row xs)) L M)
    (hi : xs[i]? = some b) (hsz : v.cells.size = q) (hb : (row b).take j ++ v.cells.toList ++ (row b).drop (j + v.cells.toList.length) = row b') (hj : j + q ≤ sz) (h1 : v.cells.all (·.oneCell') = true) :
    Does P E n ⟨dst, .store t x y, ty, ps, af, gd⟩ env L (fun u L' => u = undef ∧ L' = vec (some ⟨g, o, none⟩) m c e sz (rowsL row (xs.set i b')) :: M) := does_skip fun a w ha hs => by
  have hs1 := hs.pl hp
  have ho := vecOk hs1
  have h2 : v.cells.toList.length = q := by rw [Array.length_toList]; exact hsz
  have hlt : i < xs.length := (List.getElem?_eq_some_iff.1 hi).1
  have hxl : (rowsL row xs).length = xs.length * sz := rows_length hrow xs
  have hin : i * sz + sz ≤ xs.length * sz := by rw [← Nat.succ_mul]; exact Nat.mul_le_mul_right _ hlt
  have hmc : m * sz ≤ c * sz := Nat.mul_le_mul_right _ ho.le
  have hl := ho.len
  have hv1 : ∀ u ∈ v.cells.toList, u.oneCell' = true := fun u hu => Array.all_eq_true_iff_forall_mem.1 h1 u (by simpa using hu)
  have hset := rowsL_set hrow xs i b b' hi j v.cells.toList hb (by omega)
  obtain ⟨w', hr, hs'⟩ := vec_store (P := P) hs1 (i * sz + j) v.cells.toList hv1 (by omega) (l' := rowsL row (xs.set i b')) (m' := m) ho.le (by rw [rows_length hrow, List.length_set, ← hl, hxl]) (fun rest hr => ⟨rest, by rw [hset]⟩)
    (fun u hu => by
      have h3 := hset []
      simp only [List.append_nil] at h3
      rw [← h3] at hu
      rcases List.mem_append.1 hu with hu | hu
      · rcases List.mem_append.1 hu with hu | hu
        · exact ho.one u (List.mem_of_mem_take hu)
        · exact hv1 u hu
      · exact ho.one u (List.mem_of_mem_drop hu))
  refine ⟨_, w', ?_, ⟨rfl, rfl⟩, hs'⟩
  simp [execOp, ha.eval hx, ha.eval hy, Instr.storeAt, Instr.sureAddr, storeVar, hz.size, hsz, hr]
/-- One cell of a row. -/
theorem w_svc {t : TypeId} [hz : TCell P t] {x y : Operand} {q : Addr} {g o m c i j : Nat} {e : TypeId} {xs : List α} {b : α} {v : Value} (b' : α) (hrow : ∀ a, (row a).length = sz) (hi : xs[i]? = some b) (hx : ev env x = some (.pointer (some q)) := by exact rfl) (hy : ev env y = some v := by exact rfl) (ho : q = ⟨g, o + (i * sz + j), none⟩ := by first | exact at1o | exact at0o)
    (hp : Pl (vec (some ⟨g, o, none⟩) m c e sz (rowsL row xs)) L M := by ((repeat (first | exact .head | apply Pl.tail)); first | done | fail)) (h1 : v.oneCell' = true := by exact rfl) (hb : setN (row b) j v = some (row b') := by exact rfl) (hok : okB ops 2 r = true := by kernel_rfl)
    (hk : kept r (vec (some ⟨g, o, none⟩) m c e sz (rowsL row (xs.set i b')) :: M) := by (first | exact trivial | exact .inl rfl | exact rfl | (refine .inr ?_; (repeat (first | exact .nil | ((first | apply Sel.cons | apply Cut.cons); repeat (first | exact .head | apply Pl.tail)))); first | done | fail))) (k : WN P E n ops Q (adv r) env (vec (some ⟨g, o, none⟩) m c e sz (rowsL row (xs.set i b')) :: M)) : WB P E n ops Q ⟨none, .store t x y, ty, ps, af, gd⟩ true r env L := by
  subst ho
  obtain ⟨h2, h3⟩ := setN_eq hb
  have hc : v.cells = #[v] := by cases v <;> first | rfl | simp [Value.oneCell'] at h1
  have hz' : TSize P t 1 := ⟨hz.size⟩
  rw [hrow] at h3
  refine do0_ (stVg (q := 1) (b' := b') hrow hx hy hp hi (by rw [hc]; rfl) ?_ (by omega) (by rw [hc]; simp [h1])) hok fun u L' h => ?_
  · rw [hc, ← h2]
    show (row b).take j ++ [v] ++ (row b).drop (j + 1) = (row b).set j v
    rw [List.set_eq_take_append_cons_drop, if_pos (by rw [hrow]; exact h3)]
    simp
  · obtain ⟨rfl, rfl⟩ := h
    exact ⟨hk, k⟩
/-- A whole row. -/
theorem w_svA {t : TypeId} [hz : TSize P t sz] {x y : Operand} {q : Addr} {g o m c i : Nat} {e : TypeId} {xs : List α} {b : α} (b' : α) (hrow : ∀ a, (row a).length = sz) (hi : xs[i]? = some b) (hx : ev env x = some (.pointer (some q)) := by exact rfl) (hy : ev env y = some (.agg (row b').toArray) := by exact rfl) (ho : q = ⟨g, o + (i * sz + 0), none⟩ := by exact at0o)
    (hp : Pl (vec (some ⟨g, o, none⟩) m c e sz (rowsL row xs)) L M := by ((repeat (first | exact .head | apply Pl.tail)); first | done | fail)) (h1 : (row b').all (·.oneCell') = true := by exact rfl) (hok : okB ops 2 r = true := by kernel_rfl)
    (hk : kept r (vec (some ⟨g, o, none⟩) m c e sz (rowsL row (xs.set i b')) :: M) := by (first | exact trivial | exact .inl rfl | exact rfl | (refine .inr ?_; (repeat (first | exact .nil | ((first | apply Sel.cons | apply Cut.cons); repeat (first | exact .head | apply Pl.tail)))); first | done | fail))) (k : WN P E n ops Q (adv r) env (vec (some ⟨g, o, none⟩) m c e sz (rowsL row (xs.set i b')) :: M)) : WB P E n ops Q ⟨none, .store t x y, ty, ps, af, gd⟩ true r env L := by
  subst ho
  refine do0_ (stVg (q := sz) (b' := b') hrow hx hy hp hi (by simpa [Value.cells] using hrow b') ?_ (by omega) (by simpa [Value.cells] using h1)) hok fun u L' h => ?_
  · have e1 : (Value.agg (row b').toArray).cells.toList = row b' := by simp [Value.cells]
    rw [e1, hrow, Nat.zero_add]
    simp [hrow]
  · obtain ⟨rfl, rfl⟩ := h
    exact ⟨hk, k⟩
/-- Cut. -/
theorem w_sV {t : TypeId} {x : Operand} {lo hi mx : Option Operand} {v : Value} (h : Val P n ⟨some d, .slice t x lo hi mx, ty, ps, af, gd⟩ env v := by first | exact slH rfl rfl (by omega) (by omega) | exact slI rfl rfl (by omega) (by omega) (by omega) | exact slIH rfl rfl rfl (by omega) (by omega) (by omega) | exact slIHM rfl rfl rfl rfl (by omega) (by omega) (by omega) (by omega))
    (hd : Nat.blt d n = true := by exact rfl) (hok : okB ops 0 r = true := by kernel_rfl) (k : WN P E n ops Q r ((d, v) :: env) L) : WB P E n ops Q ⟨some d, .slice t x lo hi mx, ty, ps, af, gd⟩ true r env L := v_ h hd hok k
/-- Elements appended; where they come from is told. -/
theorem w_ap {t e t2 : TypeId} {bytes : Nat} {z : Value} [ht : TSlc P t e] [he : TElem P e sz bytes z] {x y : Operand} {p : Option Addr} {m c k : Nat} {l news : List Value} {yv : Value}
    (hsrc : Src P E L sz k k yv news) (h1 : ∀ u ∈ news, u.oneCell' = true) (hl : news.length = k * sz) (hni : P.underlying t2 = some .string ∨ ∃ e2, P.underlying t2 = some (.slice e2)) (hx : ev env x = some (.slice p m c) := by exact rfl) (hy : ev env y = some yv := by exact rfl) (hp : Pl (vec p m c e sz l) L M := by ((repeat (first | exact .head | apply Pl.tail)); first | done | fail)) (hzs : z.cells.size = sz := by exact rfl)
    (hb : (m + k) * bytes ≤ 140737488355328 := by omega) (h63 : m + k ≤ 9223372036854775807 := by omega)
    (hd : Nat.blt d n = true := by exact rfl) (hok : okB ops 2 r = true := by kernel_rfl) (hk : ∀ q : Option Addr × Nat, kept r (vec q.1 (m + k) q.2 e sz (l ++ news) :: M) := by intro _; (first | exact trivial | exact .inl rfl | exact rfl | (refine .inr ?_; (repeat (first | exact .nil | ((first | apply Sel.cons | apply Cut.cons); repeat (first | exact .head | apply Pl.tail)))); first | done | fail)))
    (k' : ∀ p' c', WN P E n ops Q (adv r) ((d, .slice p' (m + k) c') :: env) (vec p' (m + k) c' e sz (l ++ news) :: M)) : WB P E n ops Q ⟨some d, .call { callee := .builtin .append, args := #[x, y], argTypes := #[t, t2] }, ty, ps, af, gd⟩ true r env L :=
  do_ (ap hzs hni hx hy hp hsrc hl h1 hb h63) hd hok fun v L' ⟨q, e1, e2⟩ => by subst e1 e2; exact ⟨hk q, k' q.1 q.2⟩
/-- One element, out of a block that bears it. -/
theorem w_ap1 {t e e2 : TypeId} {bytes : Nat} {z : Value} [ht : TSlc P t e] [he : TElem P e sz bytes z] {x y : Operand} {p : Option Addr} {m c g c2 : Nat} {xs : List α} {fr : Nat × Nat} {b : α}
    (hx : ev env x = some (.slice p m c) := by exact rfl) (hy : ev env y = some (.slice (some ⟨g, 0, none⟩) 1 c2) := by exact rfl) (hp : Pl (vec p m c e sz (rowsL row xs)) L M := by ((repeat (first | exact .head | apply Pl.tail)); first | done | fail)) {M' : List SA} (hs : Pl (blk g (.cells (row b).toArray e2 fr)) L M' := by ((repeat (first | exact .head | apply Pl.tail)); first | done | fail)) (hzs : z.cells.size = sz := by exact rfl) (hrow : ∀ a, (row a).length = sz := by intro _; exact rfl)
    (h1 : (row b).all (·.oneCell') = true := by exact rfl) (hb : (m + 1) * bytes ≤ 140737488355328 := by omega) (h63 : m + 1 ≤ 9223372036854775807 := by omega)
    (hd : Nat.blt d n = true := by exact rfl) (hok : okB ops 2 r = true := by kernel_rfl) (hk : ∀ q : Nat × Nat × Nat, kept r (vec (some ⟨q.1, q.2.1, none⟩) (m + 1) q.2.2 e sz (rowsL row (xs ++ [b])) :: M) := by intro _; (first | exact trivial | exact .inl rfl | exact rfl | (refine .inr ?_; (repeat (first | exact .nil | ((first | apply Sel.cons | apply Cut.cons); repeat (first | exact .head | apply Pl.tail)))); first | done | fail)))
    (k' : ∀ g' o' c', WN P E n ops Q (adv r) ((d, .slice (some ⟨g', o', none⟩) (m + 1) c') :: env) (vec (some ⟨g', o', none⟩) (m + 1) c' e sz (rowsL row (xs ++ [b])) :: M)) : WB P E n ops Q ⟨some d, .call { callee := .builtin .append, args := #[x, y], argTypes := #[t, t] }, ty, ps, af, gd⟩ true r env L := by
  have e1 : rowsL row (xs ++ [b]) = rowsL row xs ++ row b := by rw [rowsL_app, rowsL_cons]; simp [rowsL]
  refine do_ (does_imp (ap hzs (.inr ⟨e, ht.und⟩) hx hy hp (srcB hs rfl (by rw [hrow, Nat.one_mul]) (fun j v hj => by simpa using hj)) (by rw [hrow, Nat.one_mul]) (fun u hu => List.all_eq_true.1 h1 u hu) hb h63)
    (R' := fun v L' => ∃ q : Nat × Nat × Nat, v = .slice (some ⟨q.1, q.2.1, none⟩) (m + 1) q.2.2 ∧ L' = vec (some ⟨q.1, q.2.1, none⟩) (m + 1) q.2.2 e sz (rowsL row (xs ++ [b])) :: M) fun v L' w hR hs' => ?_) hd hok fun v L' ⟨q, e1, e2⟩ => by subst e1 e2; exact ⟨hk q, k' q.1 q.2.1 q.2.2⟩
  obtain ⟨q, rfl, rfl⟩ := hR
  obtain ⟨g', o', e3⟩ := vat hs' (by have := (vecOk hs').le; omega)
  rw [e3] at hs' ⊢
  exact ⟨_, ⟨(g', o', q.2), rfl, rfl⟩, by rw [e1]; exact hs'⟩
theorem w_apSelf {t e : TypeId} {bytes : Nat} {z : Value} [ht : TSlc P t e] [he : TElem P e sz bytes z] {x y : Operand} {p : Option Addr} {m c i j c2 : Nat} {xs : List α} (hm : xs.length = m) (hrow : ∀ a, (row a).length = sz)
    (hx : ev env x = some (.slice p i c) := by exact rfl) (hy : ev env y = some (.slice (offp p c j sz) (m - j) c2) := by exact rfl) (hp : Pl (vec p m c e sz (rowsL row xs)) L M := by ((repeat (first | exact .head | apply Pl.tail)); first | done | fail)) (hij : i ≤ j := by omega) (hj : j ≤ m := by omega)
    (hd : Nat.blt d n = true := by exact rfl) (hok : okB ops 2 r = true := by kernel_rfl) (hk : kept r (vec p (i + (m - j)) c e sz (rowsL row (xs.take i ++ xs.drop j)) :: M) := by (first | exact trivial | exact .inl rfl | exact rfl | (refine .inr ?_; (repeat (first | exact .nil | ((first | apply Sel.cons | apply Cut.cons); repeat (first | exact .head | apply Pl.tail)))); first | done | fail)))
    (k' : WN P E n ops Q (adv r) ((d, .slice p (i + (m - j)) c) :: env) (vec p (i + (m - j)) c e sz (rowsL row (xs.take i ++ xs.drop j)) :: M)) : WB P E n ops Q ⟨some d, .call { callee := .builtin .append, args := #[x, y], argTypes := #[t, t] }, ty, ps, af, gd⟩ true r env L := by
  have e1 : rowsL row (xs.take i ++ xs.drop j) = (rowsL row xs).take (i * sz) ++ (rowsL row xs).drop (j * sz) := by rw [rowsL_app, rowsL_take hrow _ _ (by omega), rowsL_drop hrow _ _ (by omega)]
  rw [e1] at k' hk
  exact do_ (apSelf hx hy hp hij hj) hd hok fun v L' ⟨e1, e2⟩ => by subst e1 e2; exact ⟨hk, k'⟩
theorem w_clr {t e : TypeId} {bytes : Nat} {z : Value} [ht : TSlc P t e] [he : TElem P e sz bytes z] {x : Operand} {p : Option Addr} {m c k c2 : Nat} {l : List Value}
    (hx : ev env x = some (.slice (offp p c m sz) k c2) := by exact rfl) (hp : Pl (vec p m c e sz l) L M := by ((repeat (first | exact .head | apply Pl.tail)); first | done | fail)) (hkc : m + k ≤ c := by omega) (hzs : z.cells.size = sz := by exact rfl) (hz1 : z.cells.toList.all (·.oneCell') = true := by exact rfl)
    (hd : Nat.blt d n = true := by exact rfl) (hok : okB ops 2 r = true := by kernel_rfl) (hk : kept r (vec p m c e sz l :: M) := by (first | exact trivial | exact .inl rfl | exact rfl | (refine .inr ?_; (repeat (first | exact .nil | ((first | apply Sel.cons | apply Cut.cons); repeat (first | exact .head | apply Pl.tail)))); first | done | fail)))
    (k' : WN P E n ops Q (adv r) ((d, .tuple #[]) :: env) (vec p m c e sz l :: M)) : WB P E n ops Q ⟨some d, .call { callee := .builtin .clear, args := #[x], argTypes := #[t] }, ty, ps, af, gd⟩ true r env L :=
  do_ (clr hzs hz1 hx hp hkc) hd hok fun v L' ⟨e1, e2⟩ => by subst e1 e2; exact ⟨hk, k'⟩
theorem w_clr0 {t e : TypeId} {bytes : Nat} {z : Value} [ht : TSlc P t e] [he : TElem P e sz bytes z] {x : Operand} {p : Option Addr} {m c k c2 : Nat} {l : List Value}
    (hx : ev env x = some (.slice (offp p c m sz) k c2) := by exact rfl) (hp : Pl (vec p m c e sz l) L M := by ((repeat (first | exact .head | apply Pl.tail)); first | done | fail)) (hkc : m + k ≤ c := by omega) (hzs : z.cells.size = sz := by exact rfl) (hz1 : z.cells.toList.all (·.oneCell') = true := by exact rfl)
    (hok : okB ops 2 r = true := by kernel_rfl) (hk : kept r (vec p m c e sz l :: M) := by (first | exact trivial | exact .inl rfl | exact rfl | (refine .inr ?_; (repeat (first | exact .nil | ((first | apply Sel.cons | apply Cut.cons); repeat (first | exact .head | apply Pl.tail)))); first | done | fail)))
    (k' : WN P E n ops Q (adv r) env (vec p m c e sz l :: M)) : WB P E n ops Q ⟨none, .call { callee := .builtin .clear, args := #[x], argTypes := #[t] }, ty, ps, af, gd⟩ true r env L :=
  do0_ (clr hzs hz1 hx hp hkc) hok fun v L' ⟨e1, e2⟩ => by subst e1 e2; exact ⟨hk, k'⟩
/-- The address of an array's element. -/
theorem iaA {t e : TypeId} {q sz' m : Nat} [hs : TArr P t m e] [hz : TSize P e sz'] {dst : Option Tmp} {x y : Operand} {p : Addr} {k : IntKind} {i : Int} (hx : ev env x = some (.pointer (some p))) (hy : ev env y = some (.int k i)) (h0 : 0 ≤ i) (h1 : i < m) : Val P n ⟨dst, .indexAddr t x y, ty, ps, af, gd⟩ env (.pointer (some (p.add (i.toNat * sz')))) := fun a w ha => by
  simp [execOp, ha.eval hx, ha.eval hy, Instr.indexAt, Instr.sureAddr, asIntOf, run_und hs.und, h0, h1, hz.size]
theorem w_iA {t : TypeId} {x y : Operand} {v : Value} (h : Val P n ⟨some d, .indexAddr t x y, ty, ps, af, gd⟩ env v := by first | exact ia rfl rfl (by omega) (by omega) | exact iaA (q := 0) rfl rfl (by omega) (by omega))
    (hd : Nat.blt d n = true := by exact rfl) (hok : okB ops 0 r = true := by kernel_rfl) (k : WN P E n ops Q r ((d, v) :: env) L) : WB P E n ops Q ⟨some d, .indexAddr t x y, ty, ps, af, gd⟩ true r env L := v_ h hd hok k
end
end Go.SL
