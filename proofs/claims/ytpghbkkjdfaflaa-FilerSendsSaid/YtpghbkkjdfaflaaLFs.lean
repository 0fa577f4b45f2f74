/- FilerSends: the law's walk. -/
import Derived.Test.YtpghbkkjdfaflaaFib
namespace Go.Proofs.Ytpghbkkjdfaflaa
open Go.SL
attribute [local irreducible] Val ValS Does WN WB WK Sat Ctr Wn Tfin
set_option linter.unusedVariables false
set_option linter.unusedSimpArgs false
open Go.RowKit
attribute [local irreducible] be
/-- Objects that are sent, each with how far it is. -/
abbrev OA := (Int × ByteArray) × Int
def objs (ps : List OA) : List (Int × ByteArray) := ps.map (·.1)
def atsOf (ps : List OA) : List Int := ps.map (·.2)
def remP (x : OA) : Nat := max 1 (((x.1.2.size : Int) - x.2 + 499) / 500).toNat
def totP (ps : List OA) : Nat := (ps.map remP).sum
structure OkA (x : OA) : Prop where
  i0 : 0 ≤ x.1.1
  i1 : x.1.1 < 4294967296
  a0 : 0 ≤ x.2
  a1 : x.2 ≤ x.1.2.size
  s1 : x.1.2.size ≤ 4095
theorem objs_set {ps : List OA} {n : Nat} {o : Int × ByteArray} {a b : Int} (h : ps[n]? = some (o, a)) : objs (ps.set n (o, b)) = objs ps := by
  obtain ⟨hlt, he⟩ := List.getElem?_eq_some_iff.1 h
  unfold objs
  rw [List.map_set]
  show (ps.map (·.1)).set n o = ps.map (·.1)
  have : o = (ps.map (·.1))[n]'(by simpa using hlt) := by simp [he]
  rw [this, List.set_getElem_self]
theorem ats_set {ps : List OA} {n : Nat} {o : Int × ByteArray} {b : Int} : atsOf (ps.set n (o, b)) = (atsOf ps).set n b := by
  unfold atsOf
  rw [List.map_set]
theorem objs_cut {ps : List OA} {n : Nat} : objs (ps.take n ++ ps.drop (n + 1)) = (objs ps).take n ++ (objs ps).drop (n + 1) := by
  unfold objs
  rw [List.map_append, List.map_take, List.map_drop]
theorem ats_cut {ps : List OA} {n : Nat} {b : Int} : atsOf (ps.take n ++ ps.drop (n + 1)) = ((atsOf ps).set n b).take n ++ ((atsOf ps).set n b).drop (n + 1) := by
  unfold atsOf
  rw [List.map_append, List.map_take, List.map_drop, List.take_set_of_le (Nat.le_refl _), List.drop_set_of_lt (by omega)]
theorem split_n {ps : List OA} {n : Nat} {x : OA} (h : ps[n]? = some x) : ps = ps.take n ++ x :: ps.drop (n + 1) := by
  obtain ⟨hlt, he⟩ := List.getElem?_eq_some_iff.1 h
  rw [← he, List.getElem_cons_drop, List.take_append_drop]
theorem totP_cut {ps : List OA} {n : Nat} {x : OA} (h : ps[n]? = some x) : totP (ps.take n ++ ps.drop (n + 1)) + remP x = totP ps := by
  conv => rhs; rw [split_n h]
  unfold totP
  simp only [List.map_append, List.map_cons, List.sum_append, List.sum_cons]
  omega
theorem totP_set {ps : List OA} {n : Nat} {x y : OA} (h : ps[n]? = some x) : totP (ps.set n y) + remP x = totP ps + remP y := by
  have hlt := (List.getElem?_eq_some_iff.1 h).1
  have e2 : ps.set n y = ps.take n ++ y :: ps.drop (n + 1) := by rw [List.set_eq_take_append_cons_drop, if_pos hlt]
  rw [e2]
  conv => rhs; rw [split_n h]
  unfold totP
  simp only [List.map_append, List.map_cons, List.sum_append, List.sum_cons]
  omega
theorem remP_pos (x : OA) : 1 ≤ remP x := by unfold remP; omega
theorem remP_next (o : Int × ByteArray) (a : Int) (h : a + 500 < o.2.size) : remP (o, a + 500) + 1 ≤ remP (o, a) := by
  unfold remP
  simp only
  omega
theorem remP_new (o : Int × ByteArray) (h : o.2.size ≤ 4095) : remP (o, 0) ≤ 9 := by
  unfold remP
  simp only
  omega
theorem totP_app (ps : List OA) (x : OA) : totP (ps ++ [x]) = totP ps + remP x := by
  unfold totP
  simp
theorem mem_cut {ps : List OA} {n : Nat} {x : OA} (h : x ∈ ps.take n ++ ps.drop (n + 1)) : x ∈ ps := by
  rcases List.mem_append.1 h with h | h
  · exact List.mem_of_mem_take h
  · exact List.mem_of_mem_drop h
def rowStr (s : ByteArray) : List Value := [.string s]
section
variable (s : Nat) (l : SPl) (ps : List OA)
theorem lenO : (objs ps).length = ps.length := by simp [objs]
theorem lenA : (atsOf ps).length = ps.length := by simp [atsOf]
/-- A sender of such objects. -/
def sndN (n : Nat) (turn : Int) : List SA :=
  [blk s (.cells #[.slice l.p n l.c, .slice l.p2 n l.c2, .int .i64 turn] 150 (0, 0)), vec l.p n l.c 29 2 (rowsL rowO (objs ps)), vec l.p2 n l.c2 3 1 (rowsL rowI (atsOf ps))]
def sndP (turn : Int) : List SA := sndN s l ps ps.length turn
theorem sndP_eq (turn : Int) : snd s l (objs ps) (atsOf ps) turn = sndP s l ps turn := by unfold snd sndP sndN; rw [lenO, lenA]
end
theorem NewP_c : Ctr Try.prog 26 [] [] (fun v L => ∃ s, v = ptr s ∧ L = sndP s ⟨none, 0, none, 0⟩ [] 0) := NewS_c
theorem PutP_c (s : Nat) (l : SPl) (ps : List OA) (o : Int × ByteArray) (hs : o.2.size ≤ 4095) (hno : ∀ x ∈ ps, x.1.1 ≠ o.1) (hlen : ps.length < 16) : Ctr Try.prog 27 [ptr s, objV o] (sndP s l ps 0) (fun v L => ∃ l', v = .int .i64 0 ∧ L = sndP s l' (ps ++ [(o, 0)]) 0) := by
  have := Put_ok_c s l (objs ps) (atsOf ps) 0 o (by omega) (by
    rw [List.any_eq_false]
    intro x hx
    simp only [objs, List.mem_map] at hx
    obtain ⟨y, hy, rfl⟩ := hx
    simpa using hno y hy) (by rw [lenO]; exact hlen) (by rw [lenO, lenA])
  rw [sndP_eq] at this
  refine ctr_post this ?_
  rintro v L ⟨l', rfl, rfl⟩
  refine ⟨_, ⟨l', rfl, rfl⟩, fun E w R hw => ?_⟩
  rw [← sndP_eq]
  have e1 : objs (ps ++ [(o, 0)]) = objs ps ++ [o] := by simp [objs]
  have e2 : atsOf (ps ++ [(o, 0)]) = atsOf ps ++ [0] := by simp [atsOf]
  rw [e1, e2]
  exact hw
theorem PutPT_c (s : Nat) (l : SPl) (ps : List OA) (o : Int × ByteArray) (hs : o.2.size ≤ 4095) (hin : ∃ x ∈ ps, x.1.1 = o.1) (hlen : ps.length < 1000) : Ctr Try.prog 27 [ptr s, objV o] (sndP s l ps 0) (fun v L => v = .int .i64 1 ∧ L = sndP s l ps 0) := by
  have := PutTwice_c s l (objs ps) (atsOf ps) 0 o (by omega) (by rw [lenO]; omega) (by
    rw [List.any_eq_true]
    obtain ⟨x, hx, he⟩ := hin
    exact ⟨x.1, List.mem_map.2 ⟨x, hx, rfl⟩, by simpa using he⟩)
  rwa [sndP_eq] at this
section
variable (s : Nat) (l : SPl) (ps : List OA) (turn : Int) (n : Nat) (o : Int × ByteArray) (a : Int)
theorem PeekP_c (X : ByteArray) (hn : turn.tmod ps.length = n) (hp : ps[n]? = some (o, a)) (hlen : ps.length < 1000) (hP : Ctr Try.prog 28 [objV o, .int .i64 a] [] (fun v L => v = .string X ∧ L = [])) :
    Ctr Try.prog 46 [ptr s] (sndP s l ps turn) (fun v L => v = .tuple #[.string X, .bool true] ∧ L = sndP s l ps turn) := by
  have := Peek_c s l (objs ps) (atsOf ps) turn n o a X (by rw [lenO]; exact hn) (by simp [objs, hp]) (by simp [atsOf, hp]) (by rw [lenO, lenA]) (by rw [lenO]; omega) hP
  rwa [sndP_eq] at this
theorem DoneP_c (hn : turn.tmod ps.length = n) (hp : ps[n]? = some (o, a)) (hlen : ps.length < 1000) (hok : OkA (o, a)) (h : a + 500 < o.2.size) :
    Ctr Try.prog 49 [ptr s] (sndP s l ps turn) (fun v L => v = .tuple #[] ∧ L = sndP s l (ps.set n (o, a + 500)) (n + 1)) := by
  have h1 := hok.a0; have h2 := hok.a1; have h3 := hok.s1
  simp only at h1 h2 h3
  have := DoneNext_c s l (objs ps) (atsOf ps) turn n o a (by rw [lenO]; exact hn) (by simp [objs, hp]) (by simp [atsOf, hp]) (by rw [lenO, lenA]) (by rw [lenO]; omega) h1 (by omega) (by omega) h
  rw [sndP_eq, ← objs_set (b := a + 500) hp, ← ats_set (o := o), sndP_eq] at this
  exact this
theorem GoneP_c (hn : turn.tmod ps.length = n) (hp : ps[n]? = some (o, a)) (hlen : ps.length < 1000) (hok : OkA (o, a)) (h : ¬ a + 500 < o.2.size) :
    Ctr Try.prog 49 [ptr s] (sndP s l ps turn) (fun v L => ∃ l', v = .tuple #[] ∧ L = sndP s l' (ps.take n ++ ps.drop (n + 1)) n) := by
  have h1 := hok.a0; have h2 := hok.a1; have h3 := hok.s1
  simp only at h1 h2 h3
  have := DoneGone_c s l (objs ps) (atsOf ps) turn n o a (by rw [lenO]; exact hn) (by simp [objs, hp]) (by simp [atsOf, hp]) (by rw [lenO, lenA]) (by rw [lenO]; omega) h1 (by omega) (by omega) h
  rw [sndP_eq, ← objs_cut, ← ats_cut] at this
  simp only [sndP_eq] at this
  exact this
theorem LenP_c : Ctr Try.prog 48 [ptr s] (sndP s l ps turn) (fun v L => v = .int .i64 ps.length ∧ L = sndP s l ps turn) := by
  have := SLen_c s l (objs ps) (atsOf ps) turn
  rwa [sndP_eq, lenO] at this
theorem Peek0P_c : Ctr Try.prog 46 [ptr s] (sndP s l [] turn) (fun v L => v = .tuple #[.string emp, .bool false] ∧ L = sndP s l [] turn) := Peek0_c s l [] turn
end
end Go.Proofs.Ytpghbkkjdfaflaa
