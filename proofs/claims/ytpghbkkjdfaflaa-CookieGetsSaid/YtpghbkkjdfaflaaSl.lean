/- A layer over the model's own rules: the world is hidden behind a list of assertions on blocks; nothing of the program is in sight. -/
import Derived.WalkKit
import Derived.KernelRfl
import Derived.OrdersHeld
import Derived.RegionTactic
import Derived.Below
set_option linter.unusedVariables false
set_option linter.unusedSimpArgs false
namespace Go.SL

/-! ### 1. Pieces of memory -/
abbrev HP := Nat → Option Obj
def Disj (a b : HP) : Prop := ∀ i, a i = none ∨ b i = none
def join (a b : HP) : HP := fun i => (a i).or (b i)
def HLe (s t : HP) : Prop := ∀ i o, s i = some o → t i = some o
theorem HLe.refl (s : HP) : HLe s s := fun _ _ h => h
theorem HLe.trans {a b c : HP} (h : HLe a b) (k : HLe b c) : HLe a c := fun i o x => k i o (h i o x)
theorem join_some {a b : HP} {i : Nat} {o : Obj} (h : join a b i = some o) : a i = some o ∨ b i = some o := by
  unfold join at h
  cases ha : a i with
  | none => rw [ha] at h; exact .inr (by simpa using h)
  | some x => rw [ha] at h; exact .inl (by simpa using h)
theorem join_left {a b : HP} {i : Nat} {o : Obj} (h : a i = some o) : join a b i = some o := by simp [join, h]
theorem join_right {a b : HP} (hd : Disj a b) {i : Nat} {o : Obj} (h : b i = some o) : join a b i = some o := by
  rcases hd i with h1 | h1
  · simp [join, h1, h]
  · rw [h1] at h; cases h
theorem join_none {a b : HP} {i : Nat} : join a b i = none ↔ a i = none ∧ b i = none := by
  unfold join
  cases a i <;> simp
theorem join_comm {a b : HP} (hd : Disj a b) : join a b = join b a := by
  funext i
  rcases hd i with h | h <;> simp [join, h]
theorem join_assoc (a b c : HP) : join (join a b) c = join a (join b c) := by
  funext i
  simp only [join]
  cases a i <;> simp
theorem Disj.symm {a b : HP} (h : Disj a b) : Disj b a := fun i => (h i).symm
theorem disj_join {a b c : HP} : Disj a (join b c) ↔ Disj a b ∧ Disj a c := by
  constructor
  · intro h
    refine ⟨fun i => ?_, fun i => ?_⟩ <;> rcases h i with h | h
    · exact .inl h
    · exact .inr (join_none.1 h).1
    · exact .inl h
    · exact .inr (join_none.1 h).2
  · rintro ⟨h, k⟩ i
    rcases h i with h | h
    · exact .inl h
    · rcases k i with k | k
      · exact .inl k
      · exact .inr (join_none.2 ⟨h, k⟩)

/-- An assertion: of memory that nobody writes any more, and of memory of its own. -/
structure SA where
  p : HP → HP → Prop
  mono : ∀ s t h, HLe s t → p s h → p t h

def stars : List SA → HP → HP → Prop
  | [], _, _ => True
  | A :: L, s, h => ∃ x y, Disj x y ∧ h = join x y ∧ A.p s x ∧ stars L s y

theorem stars_mono {s t : HP} (hs : HLe s t) : ∀ {L : List SA} {h : HP}, stars L s h → stars L t h
  | [], _, _ => trivial
  | A :: L, _, ⟨x, y, d, e, a, r⟩ => ⟨x, y, d, e, A.mono _ _ _ hs a, stars_mono hs r⟩
/-- More memory does no harm. -/
theorem stars_more {s : HP} : ∀ {L : List SA} {h k : HP}, Disj h k → stars L s h → stars L s (join h k)
  | [], _, _, _, _ => trivial
  | A :: L, _, k, hd, ⟨x, y, d, e, a, r⟩ => by
    subst e
    have h1 := (disj_join.1 hd.symm)
    exact ⟨x, join y k, disj_join.2 ⟨d, h1.1.symm⟩, join_assoc _ _ _, a, stars_more h1.2.symm r⟩
theorem stars_swap {s : HP} {A B : SA} {L : List SA} {h : HP} (hh : stars (A :: B :: L) s h) : stars (B :: A :: L) s h := by
  obtain ⟨x, y, d, rfl, a, y1, y2, d2, rfl, b, r⟩ := hh
  have h1 := disj_join.1 d
  refine ⟨y1, join x y2, disj_join.2 ⟨h1.1.symm, d2⟩, ?_, b, x, y2, h1.2, rfl, a, r⟩
  rw [← join_assoc, join_comm h1.1, join_assoc]
theorem stars_tail {s : HP} {A : SA} {L : List SA} {h : HP} (hh : stars (A :: L) s h) : stars L s h := by
  obtain ⟨x, y, d, rfl, a, r⟩ := hh
  rw [join_comm d]
  exact stars_more d.symm r
theorem stars_cons_imp {s t : HP} {A : SA} {L M : List SA} (h : ∀ k, stars L s k → stars M s k) {k : HP} (hk : stars (A :: L) s k) : stars (A :: M) s k := by
  obtain ⟨x, y, d, rfl, a, r⟩ := hk
  exact ⟨x, y, d, rfl, a, h _ r⟩
theorem stars_append {s : HP} : ∀ {L M : List SA} {h : HP}, stars (L ++ M) s h ↔ ∃ x y, Disj x y ∧ h = join x y ∧ stars L s x ∧ stars M s y
  | [], M, h => by
    constructor
    · intro hh
      exact ⟨fun _ => none, h, fun _ => .inl rfl, by funext i; simp [join], trivial, hh⟩
    · rintro ⟨x, y, d, rfl, _, r⟩
      rw [join_comm d]
      exact stars_more d.symm r
  | A :: L, M, h => by
    constructor
    · rintro ⟨x, y, d, rfl, a, r⟩
      obtain ⟨y1, y2, d2, rfl, r1, r2⟩ := stars_append.1 r
      have h1 := disj_join.1 d
      exact ⟨join x y1, y2, (disj_join.2 ⟨h1.2.symm, d2.symm⟩).symm, (join_assoc _ _ _).symm, ⟨x, y1, h1.1, rfl, a, r1⟩, r2⟩
    · rintro ⟨xy, y2, d, rfl, ⟨x, y1, d1, rfl, a, r1⟩, r2⟩
      have h1 := disj_join.1 d.symm
      exact ⟨x, join y1 y2, disj_join.2 ⟨d1, h1.1.symm⟩, join_assoc _ _ _, a, stars_append.2 ⟨y1, y2, h1.2.symm, rfl, r1, r2⟩⟩

/-- 'A' taken out of a list. -/
inductive Pl (A : SA) : List SA → List SA → Prop
  | head {L : List SA} : Pl A (A :: L) L
  | tail {B : SA} {L M : List SA} : Pl A L M → Pl A (B :: L) (B :: M)
theorem Pl.out {A : SA} {L M : List SA} (h : Pl A L M) {s : HP} {k : HP} (hk : stars L s k) : stars (A :: M) s k := by
  induction h generalizing k with
  | head => exact hk
  | tail _ ih => exact stars_swap (stars_cons_imp (t := s) (fun k hk => ih hk) hk)
/-- A list's assertions among those of another one; the rest is forgotten. -/
inductive Sel : List SA → List SA → Prop
  | nil {L : List SA} : Sel L []
  | cons {A : SA} {L M N : List SA} : Pl A L M → Sel M N → Sel L (A :: N)
theorem Sel.out {L N : List SA} (h : Sel L N) {s : HP} {k : HP} (hk : stars L s k) : stars N s k := by
  induction h generalizing k with
  | nil => trivial
  | cons hp _ ih => exact stars_cons_imp (t := s) (fun k hk => ih hk) (hp.out hk)
/-- A list parted into those asked for, and the rest. -/
inductive Cut : List SA → List SA → List SA → Prop
  | nil {L : List SA} : Cut L [] L
  | cons {A : SA} {L M N R : List SA} : Pl A L M → Cut M N R → Cut L (A :: N) R
theorem Cut.out {L N R : List SA} (h : Cut L N R) {s : HP} {k : HP} (hk : stars L s k) : stars (N ++ R) s k := by
  induction h generalizing k with
  | nil => exact hk
  | cons hp _ ih => exact stars_cons_imp (t := s) (fun k hk => ih hk) (hp.out hk)

/-- What is told of a world. E: the streams and the tape, which stay. -/
def Sat (E : World) (L : List SA) (w : World) : Prop :=
  w.os = E.os ∧ w.tape = E.tape ∧ w.output = E.output ∧
  ∃ s h : HP, Disj s h ∧ (∀ i o, s i = some o → w.heap[i]? = some o) ∧ (∀ i o, h i = some o → w.heap[i]? = some o) ∧ stars L s h

theorem Sat.imp {E w : World} {L M : List SA} (h : Sat E L w) (k : ∀ s h, stars L s h → stars M s h) : Sat E M w := by
  obtain ⟨h1, h2, h3, s, x, h4, h5, h6, h7⟩ := h
  exact ⟨h1, h2, h3, s, x, h4, h5, h6, k _ _ h7⟩
theorem Sat.sel {E w : World} {L M : List SA} (h : Sat E L w) (k : Sel L M) : Sat E M w := h.imp fun _ _ hh => k.out hh
theorem Sat.pl {E w : World} {A : SA} {L M : List SA} (h : Sat E L w) (k : Pl A L M) : Sat E (A :: M) w := h.imp fun _ _ hh => k.out hh
theorem Sat.cut {E w : World} {L N R : List SA} (h : Sat E L w) (k : Cut L N R) : Sat E (N ++ R) w := h.imp fun _ _ hh => k.out hh
theorem Sat.drew {E w : World} {L : List SA} (h : Sat E L w) : Sat E L w.drew := h
theorem Sat.drawn {E w : World} {L : List SA} (h : Sat E L w) (n : Nat) : Sat E L { w with drawn := n } := h

/-! ### 2. Assertions -/
def one (g : Nat) (o : Obj) : HP := fun i => if i = g then some o else none
/-- Block g is an object, and may be written. -/
def blk (g : Nat) (o : Obj) : SA := ⟨fun _ h => h = one g o, fun _ _ _ _ h => h⟩
/-- Block g is an object for good. -/
def ro (g : Nat) (o : Obj) : SA := ⟨fun s _ => s g = some o, fun _ _ _ hs h => hs _ _ h⟩
/-- A fact. -/
def pur (φ : Prop) : SA := ⟨fun _ _ => φ, fun _ _ _ _ h => h⟩
/-- All that a world held is held for good. -/
def base (w0 : World) : SA := ⟨fun s _ => ∀ i o, w0.heap[i]? = some o → s i = some o, fun _ _ _ hs h i o hi => hs _ _ (h i o hi)⟩
/-- Some assertion of a family. -/
def ex {α : Type} (f : α → SA) : SA := ⟨fun s h => ∃ x, (f x).p s h, fun s t h hs ⟨x, hx⟩ => ⟨x, (f x).mono s t h hs hx⟩⟩
/-- Several as one. -/
def all (L : List SA) : SA := ⟨stars L, fun _ _ _ hs h => stars_mono hs h⟩

theorem Sat.blk {E w : World} {g : Nat} {o : Obj} {L : List SA} (h : Sat E (blk g o :: L) w) : w.heap[g]? = some o := by
  obtain ⟨_, _, _, s, k, _, _, h6, x, y, d, rfl, rfl, _⟩ := h
  exact h6 g o (join_left (by simp [one]))
theorem Sat.ro {E w : World} {g : Nat} {o : Obj} {L : List SA} (h : Sat E (ro g o :: L) w) : w.heap[g]? = some o := by
  obtain ⟨_, _, _, s, k, _, h5, _, x, y, d, rfl, hx, _⟩ := h
  exact h5 g o hx
theorem Sat.pur {E w : World} {φ : Prop} {L : List SA} (h : Sat E (pur φ :: L) w) : φ := by
  obtain ⟨_, _, _, s, k, _, _, _, x, y, d, rfl, hx, _⟩ := h
  exact hx
theorem Sat.addPur {E w : World} {φ : Prop} {L : List SA} (h : Sat E L w) (hφ : φ) : Sat E (SL.pur φ :: L) w := by
  refine h.imp fun s k hk => ⟨fun _ => none, k, fun _ => .inl rfl, by funext i; simp [join], hφ, hk⟩
theorem Sat.ex {E w : World} {α : Type} {f : α → SA} {L : List SA} (h : Sat E (SL.ex f :: L) w) : ∃ x, Sat E (f x :: L) w := by
  obtain ⟨h1, h2, h3, s, k, h4, h5, h6, x, y, d, rfl, ⟨z, hz⟩, r⟩ := h
  exact ⟨z, h1, h2, h3, s, _, h4, h5, h6, x, y, d, rfl, hz, r⟩
theorem Sat.toEx {E w : World} {α : Type} {f : α → SA} {L : List SA} (x : α) (h : Sat E (f x :: L) w) : Sat E (SL.ex f :: L) w := by
  obtain ⟨h1, h2, h3, s, k, h4, h5, h6, y, z, d, rfl, hz, r⟩ := h
  exact ⟨h1, h2, h3, s, _, h4, h5, h6, y, z, d, rfl, ⟨x, hz⟩, r⟩
theorem Sat.all {E w : World} {M L : List SA} (h : Sat E (SL.all M :: L) w) : Sat E (M ++ L) w :=
  h.imp fun s k hk => by
    obtain ⟨x, y, d, rfl, a, r⟩ := hk
    exact stars_append.2 ⟨x, y, d, rfl, a, r⟩
theorem Sat.toAll {E w : World} {M L : List SA} (h : Sat E (M ++ L) w) : Sat E (SL.all M :: L) w :=
  h.imp fun s k hk => by
    obtain ⟨x, y, d, rfl, a, r⟩ := stars_append.1 hk
    exact ⟨x, y, d, rfl, a, r⟩
/-- A persistent assertion may be had twice. -/
theorem Sat.dup {E w : World} {A : SA} {L : List SA} (hA : ∀ s h, A.p s h → A.p s (fun _ => none)) (h : Sat E (A :: L) w) : Sat E (A :: A :: L) w :=
  h.imp fun s k hk => by
    obtain ⟨x, y, d, rfl, a, r⟩ := hk
    refine ⟨fun _ => none, join x y, fun _ => .inl rfl, by funext i; simp [join], hA _ _ a, x, y, d, rfl, a, r⟩
theorem ro_dup (g : Nat) (o : Obj) : ∀ s h, (SL.ro g o).p s h → (SL.ro g o).p s (fun _ => none) := fun _ _ h => h
theorem base_dup (w : World) : ∀ s h, (SL.base w).p s h → (SL.base w).p s (fun _ => none) := fun _ _ h => h

/-- A store: the block's object is another one. -/
theorem Sat.put {E w : World} {g : Nat} {o : Obj} {L : List SA} (h : Sat E (SL.blk g o :: L) w) (o' : Obj) (w' : World) (hos : w'.os = w.os) (htape : w'.tape = w.tape) (hout : w'.output = w.output)
    (hg : w'.heap[g]? = some o') (hne : ∀ i, i ≠ g → ∀ x, w.heap[i]? = some x → w'.heap[i]? = some x) : Sat E (SL.blk g o' :: L) w' := by
  obtain ⟨h1, h2, h3, s, k, h4, h5, h6, x, y, d, rfl, rfl, r⟩ := h
  have hs : s g = none := by
    rcases h4 g with h | h
    · exact h
    · have := (join_none.1 h).1; simp [one] at this
  have hy : y g = none := by
    rcases d g with h | h
    · simp [one] at h
    · exact h
  have d' : Disj (one g o') y := fun i => by
    by_cases e : i = g
    · subst e; exact .inr hy
    · exact .inl (by simp [one, e])
  refine ⟨hos.trans h1, htape.trans h2, hout.trans h3, s, join (one g o') y, ?_, ?_, ?_, one g o', y, d', rfl, rfl, r⟩
  · intro i
    by_cases e : i = g
    · subst e; exact .inl hs
    · rcases h4 i with h | h
      · exact .inl h
      · exact .inr (join_none.2 ⟨by simp [one, e], (join_none.1 h).2⟩)
  · intro i x hx
    have e : i ≠ g := fun e => by subst e; rw [hs] at hx; cases hx
    exact hne i e x (h5 i x hx)
  · intro i x hx0
    rcases join_some hx0 with hx | hx
    · by_cases e : i = g
      · subst e; simp [one] at hx; subst hx; exact hg
      · simp [one, e] at hx
    · have e : i ≠ g := fun e => by rw [e, hy] at hx; cases hx
      exact hne i e x (h6 i x (join_right d hx))
/-- A new block. -/
theorem Sat.new {E w : World} {L : List SA} (h : Sat E L w) (o : Obj) (w' : World) (hos : w'.os = w.os) (htape : w'.tape = w.tape) (hout : w'.output = w.output)
    (hh : w'.heap = w.heap.push o) : Sat E (SL.blk w.heap.size o :: L) w' := by
  obtain ⟨h1, h2, h3, s, k, h4, h5, h6, r⟩ := h
  have lt : ∀ {i x}, w.heap[i]? = some x → i < w.heap.size := fun h => (Array.getElem?_eq_some_iff.1 h).1
  have keep : ∀ i x, w.heap[i]? = some x → w'.heap[i]? = some x := fun i x hx => by
    rw [hh, Array.getElem?_push, if_neg (by have := lt hx; omega)]; exact hx
  have d : Disj (one w.heap.size o) k := fun i => by
    by_cases e : i = w.heap.size
    · right
      cases hk : k i with
      | none => rfl
      | some x => have := lt (h6 i x hk); omega
    · exact .inl (by simp [one, e])
  refine ⟨hos.trans h1, htape.trans h2, hout.trans h3, s, join (one w.heap.size o) k, ?_, ?_, ?_, one w.heap.size o, k, d, rfl, rfl, r⟩
  · intro i
    by_cases e : i = w.heap.size
    · left
      cases hk : s i with
      | none => rfl
      | some x => have := lt (h5 i x hk); omega
    · rcases h4 i with h | h
      · exact .inl h
      · exact .inr (join_none.2 ⟨by simp [one, e], h⟩)
  · exact fun i x hx => keep i x (h5 i x hx)
  · intro i x hx
    rcases join_some hx with hx | hx
    · by_cases e : i = w.heap.size
      · subst e; simp [one] at hx; subst hx; rw [hh]; simp
      · simp [one, e] at hx
    · exact keep i x (h6 i x hx)
/-- A block that nobody writes any more. -/
theorem Sat.freeze {E w : World} {g : Nat} {o : Obj} {L : List SA} (h : Sat E (SL.blk g o :: L) w) : Sat E (SL.ro g o :: L) w := by
  obtain ⟨h1, h2, h3, s, k, h4, h5, h6, x, y, d, rfl, rfl, r⟩ := h
  have hs : s g = none := by
    rcases h4 g with h | h
    · exact h
    · have := (join_none.1 h).1; simp [one] at this
  have dsg : Disj s (one g o) := (disj_join.1 h4).1
  refine ⟨h1, h2, h3, join s (one g o), y, ?_, ?_, ?_, fun _ => none, y, fun _ => .inl rfl, by funext i; simp [join], join_right dsg (by simp [one]), stars_mono (fun i z hz => join_left hz) r⟩
  · exact (disj_join.2 ⟨(disj_join.1 h4).2.symm, d.symm⟩).symm
  · intro i z hz
    rcases join_some hz with hz | hz
    · exact h5 i z hz
    · exact h6 i z (join_left hz)
  · exact fun i z hz => h6 i z (join_right d hz)

/-- At a law's begin: all that is there is held for good. -/
theorem Sat.start (w : World) : Sat w [SL.base w] w :=
  ⟨rfl, rfl, rfl, fun i => w.heap[i]?, fun _ => none, fun _ => .inr rfl, fun _ _ h => h, (fun _ _ h => by cases h),
    fun _ => none, fun _ => none, fun _ => .inl rfl, by funext i; simp [join], fun _ _ h => h, trivial⟩
theorem Sat.below {w w' : World} {L : List SA} (h : Sat w (SL.base w :: L) w') : Go.RowKit.Below w.heap.size w w' := by
  obtain ⟨h1, h2, h3, s, k, h4, h5, h6, x, y, d, rfl, hb, r⟩ := h
  have hk : ∀ i, i < w.heap.size → w'.heap[i]? = w.heap[i]? := fun i hi => by
    have e : w.heap[i]? = some w.heap[i] := Array.getElem?_eq_getElem hi
    rw [e]
    exact h5 i _ (hb i _ e)
  refine ⟨h1, h2, h3, ?_, hk⟩
  rcases Nat.lt_or_ge w'.heap.size w.heap.size with hlt | hge
  · have := hk w'.heap.size hlt
    rw [Array.getElem?_eq_none (Nat.le_refl _), Array.getElem?_eq_getElem hlt] at this
    cases this
  · exact hge
theorem Sat.baseAt {E w w0 : World} {L : List SA} (h : Sat E (SL.base w0 :: L) w) {i : Nat} {o : Obj} (hi : w0.heap[i]? = some o) : w.heap[i]? = some o := by
  obtain ⟨h1, h2, h3, s, k, h4, h5, h6, x, y, d, rfl, hb, r⟩ := h
  exact h5 i _ (hb i o hi)
end Go.SL
