/- More of slices all of one's own: made, built, appended to out of others. -/
import Derived.Test.YtpghbkkjdfaflaaMap
set_option linter.unusedVariables false
set_option linter.unusedSimpArgs false
namespace Go.SL
open Go.RowKit
attribute [local irreducible] WN WB WK Ctr Wn Tfin
section
variable {α : Type} {row : α → List Value} {sz : Nat}
theorem rows_made {z : Array Value} {x0 : α} (hz : row x0 = z.toList) (hs : z.size = sz) (hrow : ∀ a, (row a).length = sz) (c : Nat) : (madeCells z (c * sz)).toList = rowsL row (List.replicate c x0) := by
  apply List.ext_getElem?
  intro q
  by_cases hq : q < c * sz
  · have hsz : 0 < sz := by
      rcases Nat.eq_zero_or_pos sz with h | h
      · subst h; simp at hq
      · exact h
    have hdm : q / sz * sz + q % sz = q := by rw [Nat.mul_comm]; exact Nat.div_add_mod q sz
    have hlt := Nat.mod_lt q hsz
    have hi : q / sz < c := Nat.div_lt_of_lt_mul (by rw [Nat.mul_comm]; exact hq)
    have h2 := rows_get hrow (List.replicate c x0) (q / sz) (q % sz) x0 (by rw [List.getElem?_replicate, if_pos hi]) hlt
    rw [hdm] at h2
    rw [h2, hz]
    simp only [madeCells, Array.toList_map, List.getElem?_map, Array.toList_range, List.getElem?_range hq, Option.map_some]
    rw [hs]
    have hlz : q % sz < z.size := by rw [hs]; exact hlt
    rw [getElem!_pos z (q % sz) hlz, Array.getElem?_toList, Array.getElem?_eq_getElem hlz]
  · rw [List.getElem?_eq_none (by rw [Array.length_toList, size_madeCells]; omega), List.getElem?_eq_none (by rw [rows_length hrow, List.length_replicate]; omega)]
end
section
variable {P : Program} {E : World} {n : Nat} {env : En} {d : Nat} {ty : TypeId} {ps : String} {af : Array Edge} {gd : Option (Nat × Bool)} {ops : Array Oper} {Q : Exit → Act → World → Prop} {r : Rs} {L M : List SA} {T : Act → World → Prop} {k : List Fr}
variable {α : Type} {row : α → List Value} {sz : Nat}
/-- make. -/
theorem mk_ {dd : Option Tmp} {t e : TypeId} {bytes : Nat} {z : Value} [ht : TSlc P t e] [he : TElem P e sz bytes z] {x y : Operand} {kl kc : IntKind} {l c : Int} (x0 : α) (hz : row x0 = z.cells.toList) (hzs : z.cells.size = sz) (hrow : ∀ a, (row a).length = sz) (hz1 : (row x0).all (·.oneCell') = true)
    (hx : ev env x = some (.int kl l)) (hy : ev env y = some (.int kc c)) (h0 : 0 ≤ l) (hlc : l ≤ c) (hb : (bytes : Int) * c ≤ 281474976710656) (h63 : c ≤ 9223372036854775807) :
    Does P E n ⟨dd, .makeSlice t x y, ty, ps, af, gd⟩ env L (fun u L' => ∃ g, u = .slice (some ⟨g, 0, none⟩) l.toNat c.toNat ∧ L' = vec (some ⟨g, 0, none⟩) l.toNat c.toNat e sz (rowsL row (List.replicate l.toNat x0)) :: L) := does_value fun a w ha hs => by
  obtain ⟨i, hi, rfl, rfl, hzi⟩ := he.info
  have hr := run_make (P := P) w t e i z ht.und hi hzi kl kc l c h0 hlc hb h63
  refine ⟨_, _, w.alloc (.cells (madeCells z.cells (c.toNat * i.size)) e), ?_, ⟨w.heap.size, rfl, rfl⟩, ?_⟩
  · simp [execOp, ha.eval hx, ha.eval hy, hr]
  · have hn := hs.new (.cells (madeCells z.cells (c.toNat * i.size)) e (0, 0)) (w.alloc (.cells (madeCells z.cells (c.toNat * i.size)) e)) rfl rfl rfl rfl
    have e1 : madeCells z.cells (c.toNat * i.size) = ([] ++ rowsL row (List.replicate l.toNat x0) ++ rowsL row (List.replicate (c.toNat - l.toNat) x0)).toArray := by
      apply Array.ext'
      rw [rows_made hz hzs hrow]
      show _ = [] ++ rowsL row (List.replicate l.toNat x0) ++ rowsL row (List.replicate (c.toNat - l.toNat) x0)
      rw [List.nil_append, ← rowsL_app, List.replicate_append_replicate]
      congr 2
      omega
    rw [e1] at hn ⊢
    exact toVec (pre := []) ⟨by rw [rows_length hrow, List.length_replicate], by omega, fun h => (by cases h), fun v hv => by
      simp only [rowsL, List.mem_flatMap, List.mem_replicate] at hv
      obtain ⟨q, ⟨_, rfl⟩, hq⟩ := hv
      exact List.all_eq_true.1 hz1 v hq⟩ (by rw [rows_length hrow, List.length_replicate]; exact Nat.le_refl _) hn
theorem w_mk {t e : TypeId} {bytes : Nat} {z : Value} [ht : TSlc P t e] [he : TElem P e sz bytes z] {x y : Operand} {kl kc : IntKind} {l c : Int} (row : α → List Value) (x0 : α) (hz : row x0 = z.cells.toList := by exact rfl) (hzs : z.cells.size = sz := by exact rfl) (hrow : ∀ a, (row a).length = sz := by intro _; exact rfl) (hz1 : (row x0).all (·.oneCell') = true := by exact rfl)
    (hx : ev env x = some (.int kl l) := by exact rfl) (hy : ev env y = some (.int kc c) := by exact rfl) (h0 : 0 ≤ l := by omega) (hlc : l ≤ c := by omega) (hb : (bytes : Int) * c ≤ 281474976710656 := by omega) (h63 : c ≤ 9223372036854775807 := by omega)
    (hd : Nat.blt d n = true := by exact rfl) (hok : okB ops 2 r = true := by kernel_rfl) (hk : ∀ g, kept r (vec (some ⟨g, 0, none⟩) l.toNat c.toNat e sz (rowsL row (List.replicate l.toNat x0)) :: L) := by intro _; (first | exact trivial | exact .inl rfl | exact rfl | (refine .inr ?_; (repeat (first | exact .nil | ((first | apply Sel.cons | apply Cut.cons); repeat (first | exact .head | apply Pl.tail)))); first | done | fail)))
    (k' : ∀ g, WN P E n ops Q (adv r) ((d, .slice (some ⟨g, 0, none⟩) l.toNat c.toNat) :: env) (vec (some ⟨g, 0, none⟩) l.toNat c.toNat e sz (rowsL row (List.replicate l.toNat x0)) :: L)) : WB P E n ops Q ⟨some d, .makeSlice t x y, ty, ps, af, gd⟩ true r env L :=
  do_ (mk_ x0 hz hzs hrow hz1 hx hy h0 hlc hb h63) hd hok fun v L' ⟨g, e1, e2⟩ => by subst e1 e2; exact ⟨hk g, k' g⟩
/-- A slice's literal. -/
theorem w_bsV {t e : TypeId} [ht : TSlc P t e] [hz : TSize P e sz] {m : Nat} {parts : List (Nat × Operand)} {vs : List (Nat × Value)} {l : List Value} (row : α → List Value) (xs : List α) (hv : evp env parts = some vs := by exact rfl) (hl : flatV vs = some l := by exact rfl) (hxs : l = rowsL row xs := by exact rfl)
    (hr : ∀ w, (Instr.buildSlice t m vs.toArray).run P w = .ok (.slice (some ⟨w.heap.size, 0, none⟩) m m) { w with heap := w.heap.push (.cells l.toArray e) } := by intro w; kernel_rfl) (hm : xs.length = m := by exact rfl) (hrow : ∀ a, (row a).length = sz := by intro _; exact rfl) (h1 : l.all (·.oneCell') = true := by exact rfl)
    (hd : Nat.blt d n = true := by exact rfl) (hok : okB ops 2 r = true := by kernel_rfl) (hk : ∀ g, kept r (vec (some ⟨g, 0, none⟩) m m e sz (rowsL row xs) :: L) := by intro _; (first | exact trivial | exact .inl rfl | exact rfl | (refine .inr ?_; (repeat (first | exact .nil | ((first | apply Sel.cons | apply Cut.cons); repeat (first | exact .head | apply Pl.tail)))); first | done | fail))) (k : ∀ g, WN P E n ops Q (adv r) ((d, .slice (some ⟨g, 0, none⟩) m m) :: env) (vec (some ⟨g, 0, none⟩) m m e sz (rowsL row xs) :: L)) : WB P E n ops Q ⟨some d, .buildSlice t m parts.toArray, ty, ps, af, gd⟩ true r env L := by
  refine do_ (does_value (R := fun v L' => ∃ g, v = .slice (some ⟨g, 0, none⟩) m m ∧ L' = vec (some ⟨g, 0, none⟩) m m e sz (rowsL row xs) :: L) fun a w ha hs => ⟨_, _, { w with heap := w.heap.push (.cells l.toArray e) }, by
    have := evp_ok ha hv
    simp [execOp, this, hr], ⟨w.heap.size, rfl, rfl⟩, ?_⟩) hd hok fun v' L' ⟨g, e1, e2⟩ => by subst e1 e2; exact ⟨hk g, k g⟩
  have hn := hs.new (.cells l.toArray e (0, 0)) { w with heap := w.heap.push (.cells l.toArray e) } rfl rfl rfl rfl
  have e1 : l.toArray = ([] ++ rowsL row xs ++ []).toArray := by rw [List.nil_append, List.append_nil, hxs]
  rw [e1] at hn ⊢
  exact toVec (pre := []) ⟨by rw [rows_length hrow, hm], Nat.le_refl _, fun h => (by cases h), fun v hv => by rw [← hxs] at hv; exact List.all_eq_true.1 h1 v hv⟩ (by simp) hn
/-- Elements of another slice of one's own. -/
theorem apP {dd : Option Tmp} {t e e2 : TypeId} {bytes : Nat} {z : Value} [ht : TSlc P t e] [he : TElem P e sz bytes z] (hzs : z.cells.size = sz) (hrow : ∀ a, (row a).length = sz) {x y : Operand} {p q : Option Addr} {m c mB cB j kk c2 : Nat} {xs ys : List α}
    (hx : ev env x = some (.slice p m c)) (hy : ev env y = some (.slice (offp q cB j sz) kk c2)) (hp : Pl (vec p m c e sz (rowsL row xs)) L M) {M' : List SA} (hq : Pl (vec q mB cB e2 sz (rowsL row ys)) M M') (hjk : j + kk ≤ mB) (hmB : ys.length = mB)
    (hb : (m + kk) * bytes ≤ 140737488355328) (h63 : m + kk ≤ 9223372036854775807) :
    Does P E n ⟨dd, .call { callee := .builtin .append, args := #[x, y], argTypes := #[t, t] }, ty, ps, af, gd⟩ env L (fun u L' => ∃ q : Option Addr × Nat, u = .slice q.1 (m + kk) q.2 ∧ L' = vec q.1 (m + kk) q.2 e sz (rowsL row (xs ++ (ys.drop j).take kk)) :: M) := by
  have e1 : rowsL row (xs ++ (ys.drop j).take kk) = rowsL row xs ++ rowsL row ((ys.drop j).take kk) := rowsL_app _ _
  rw [e1]
  have hlk : ((ys.drop j).take kk).length = kk := by rw [List.length_take, List.length_drop]; omega
  have hone : ∀ w, Sat E L w → ∀ v ∈ rowsL row ys, v.oneCell' = true := fun w hw => (vecOk ((hw.pl hp).pl (.tail hq))).one
  intro a w ha hs next Q hk
  have hyy := (hs.pl hp).pl (.tail hq)
  refine ap hzs (.inr ⟨e, ht.und⟩) hx hy hp ?_ (by rw [rows_length hrow, hlk]) (fun u hu => ?_) hb h63 a w ha hs next Q hk
  · intro w' hs'
    have hy' := (hs'.pl hp).pl (.tail hq)
    rcases Nat.eq_zero_or_pos kk with h0 | h0
    · subst h0
      have : (ys.drop j).take 0 = [] := by simp
      rw [this]
      exact srcE w' hs'
    · obtain ⟨g, o, e3⟩ := vat hy' (by have := (vecOk hy').le; omega)
      subst e3
      have hcj : cB ≠ j := by have := (vecOk hy').le; omega
      refine srcV (P := P) (E := E) (L := vec p m c e sz (rowsL row xs) :: M') (M := vec (some ⟨g, o, none⟩) mB cB e2 sz (rowsL row ys) :: vec p m c e sz (rowsL row xs) :: M') .head (offp_pl hcj) (by rw [rows_length hrow, hlk]) (fun i v hi => ?_) w' hy'
      have e4 : rowsL row ((ys.drop j).take kk) = ((rowsL row ys).drop (j * sz)).take (kk * sz) := by
        rw [rowsL_drop hrow _ _ (by omega), rowsL_take hrow _ _ (by rw [List.length_drop]; omega)]
      rw [e4] at hi
      have hlt : i < kk * sz := by
        have := (List.getElem?_eq_some_iff.1 hi).1
        rw [List.length_take] at this
        omega
      rw [List.getElem?_take, if_pos hlt, List.getElem?_drop] at hi
      exact hi
  · have hsub : u ∈ rowsL row ys := by
      simp only [rowsL, List.mem_flatMap] at hu ⊢
      obtain ⟨b, hb', hu'⟩ := hu
      exact ⟨b, List.mem_of_mem_drop (List.mem_of_mem_take hb'), hu'⟩
    exact hone w hs u hsub
/-- The first k of another one; all of it; what is behind its first j. -/
theorem w_apT {t e e2 : TypeId} {bytes : Nat} {z : Value} [ht : TSlc P t e] [he : TElem P e sz bytes z] {x y : Operand} {p q : Option Addr} {m c mB cB kk c2 : Nat} {xs ys : List α} {M' : List SA} (hmB : ys.length = mB) (hrow : ∀ a, (row a).length = sz)
    (hx : ev env x = some (.slice p m c) := by exact rfl) (hp : Pl (vec p m c e sz (rowsL row xs)) L M := by ((repeat (first | exact .head | apply Pl.tail)); first | done | fail)) (hy : ev env y = some (.slice q kk c2) := by exact rfl) (hq : Pl (vec q mB cB e2 sz (rowsL row ys)) M M' := by ((repeat (first | exact .head | apply Pl.tail)); first | done | fail)) (hzs : z.cells.size = sz := by exact rfl) (hjk : kk ≤ mB := by omega)
    (hb : (m + kk) * bytes ≤ 140737488355328 := by omega) (h63 : m + kk ≤ 9223372036854775807 := by omega) (hd : Nat.blt d n = true := by exact rfl) (hok : okB ops 2 r = true := by kernel_rfl) (hk : ∀ q : Option Addr × Nat, kept r (vec q.1 (m + kk) q.2 e sz (rowsL row (xs ++ ys.take kk)) :: M) := by intro _; (first | exact trivial | exact .inl rfl | exact rfl | (refine .inr ?_; (repeat (first | exact .nil | ((first | apply Sel.cons | apply Cut.cons); repeat (first | exact .head | apply Pl.tail)))); first | done | fail)))
    (k' : ∀ p' c', WN P E n ops Q (adv r) ((d, .slice p' (m + kk) c') :: env) (vec p' (m + kk) c' e sz (rowsL row (xs ++ ys.take kk)) :: M)) : WB P E n ops Q ⟨some d, .call { callee := .builtin .append, args := #[x, y], argTypes := #[t, t] }, ty, ps, af, gd⟩ true r env L := by
  have hy' : ev env y = some (.slice (offp q cB 0 sz) kk c2) := by rw [offp_zero]; exact hy
  refine do_ (apP hzs hrow hx hy' hp hq (by omega) hmB hb h63) hd hok fun v L' ⟨q, e1, e2⟩ => ?_
  subst e1 e2
  rw [List.drop_zero]
  exact ⟨hk q, k' q.1 q.2⟩
theorem w_apA {t e e2 : TypeId} {bytes : Nat} {z : Value} [ht : TSlc P t e] [he : TElem P e sz bytes z] {x y : Operand} {p q : Option Addr} {m c mB cB c2 : Nat} {xs ys : List α} {M' : List SA} (hmB : ys.length = mB) (hrow : ∀ a, (row a).length = sz)
    (hx : ev env x = some (.slice p m c) := by exact rfl) (hp : Pl (vec p m c e sz (rowsL row xs)) L M := by ((repeat (first | exact .head | apply Pl.tail)); first | done | fail)) (hy : ev env y = some (.slice q mB c2) := by exact rfl) (hq : Pl (vec q mB cB e2 sz (rowsL row ys)) M M' := by ((repeat (first | exact .head | apply Pl.tail)); first | done | fail)) (hzs : z.cells.size = sz := by exact rfl)
    (hb : (m + mB) * bytes ≤ 140737488355328 := by omega) (h63 : m + mB ≤ 9223372036854775807 := by omega) (hd : Nat.blt d n = true := by exact rfl) (hok : okB ops 2 r = true := by kernel_rfl) (hk : ∀ q : Option Addr × Nat, kept r (vec q.1 (m + mB) q.2 e sz (rowsL row (xs ++ ys)) :: M) := by intro _; (first | exact trivial | exact .inl rfl | exact rfl | (refine .inr ?_; (repeat (first | exact .nil | ((first | apply Sel.cons | apply Cut.cons); repeat (first | exact .head | apply Pl.tail)))); first | done | fail)))
    (k' : ∀ p' c', WN P E n ops Q (adv r) ((d, .slice p' (m + mB) c') :: env) (vec p' (m + mB) c' e sz (rowsL row (xs ++ ys)) :: M)) : WB P E n ops Q ⟨some d, .call { callee := .builtin .append, args := #[x, y], argTypes := #[t, t] }, ty, ps, af, gd⟩ true r env L := by
  have e1 : ys.take mB = ys := List.take_of_length_le (by omega)
  refine w_apT hmB hrow hx hp hy hq hzs (Nat.le_refl _) hb h63 hd hok (by rw [e1]; exact hk) (by rw [e1]; exact k')
theorem w_apD {t e e2 : TypeId} {bytes : Nat} {z : Value} [ht : TSlc P t e] [he : TElem P e sz bytes z] {x y : Operand} {p q : Option Addr} {m c mB cB j c2 : Nat} {xs ys : List α} {M' : List SA} (hmB : ys.length = mB) (hrow : ∀ a, (row a).length = sz)
    (hx : ev env x = some (.slice p m c) := by exact rfl) (hp : Pl (vec p m c e sz (rowsL row xs)) L M := by ((repeat (first | exact .head | apply Pl.tail)); first | done | fail)) (hy : ev env y = some (.slice (offp q cB j sz) (mB - j) c2) := by exact rfl) (hq : Pl (vec q mB cB e2 sz (rowsL row ys)) M M' := by ((repeat (first | exact .head | apply Pl.tail)); first | done | fail)) (hzs : z.cells.size = sz := by exact rfl) (hj : j ≤ mB := by omega)
    (hb : (m + (mB - j)) * bytes ≤ 140737488355328 := by omega) (h63 : m + (mB - j) ≤ 9223372036854775807 := by omega) (hd : Nat.blt d n = true := by exact rfl) (hok : okB ops 2 r = true := by kernel_rfl) (hk : ∀ q : Option Addr × Nat, kept r (vec q.1 (m + (mB - j)) q.2 e sz (rowsL row (xs ++ ys.drop j)) :: M) := by intro _; (first | exact trivial | exact .inl rfl | exact rfl | (refine .inr ?_; (repeat (first | exact .nil | ((first | apply Sel.cons | apply Cut.cons); repeat (first | exact .head | apply Pl.tail)))); first | done | fail)))
    (k' : ∀ p' c', WN P E n ops Q (adv r) ((d, .slice p' (m + (mB - j)) c') :: env) (vec p' (m + (mB - j)) c' e sz (rowsL row (xs ++ ys.drop j)) :: M)) : WB P E n ops Q ⟨some d, .call { callee := .builtin .append, args := #[x, y], argTypes := #[t, t] }, ty, ps, af, gd⟩ true r env L := by
  have e1 : (ys.drop j).take (mB - j) = ys.drop j := List.take_of_length_le (by rw [List.length_drop]; omega)
  refine do_ (apP hzs hrow hx hy hp hq (by omega) hmB hb h63) hd hok fun v L' ⟨q, e2, e3⟩ => ?_
  subst e2 e3
  rw [e1]
  exact ⟨hk q, k' q.1 q.2⟩
end
end Go.SL
