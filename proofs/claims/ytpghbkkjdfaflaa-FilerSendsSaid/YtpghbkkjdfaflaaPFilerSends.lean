/- FilerSends: the law holds for every input (its row): the walk of LFt, in a frame after the kit's own. -/
import Derived.Test.YtpghbkkjdfaflaaRows
import Derived.Test.YtpghbkkjdfaflaaLFt
import Derived.Test.YtpghbkkjdfaflaaTr
import Derived.WalkKit
import Derived.ProofKit
import Derived.OpenShut
import Derived.ShutString
import Derived.ChangeOld
import Derived.Below
import Derived.Carry
namespace Go.Proofs.Ytpghbkkjdfaflaa.filerSends
open Go.ChangeShapes Go.WideShapes Go.ChangeAt Go.RowKit
open Go.SL
set_option linter.unusedVariables false

theorem own : ownKnob Try.prog.godebug = none := by kernel_rfl
theorem laidOut : laidOutB Try.prog = true := by kernel_rfl

theorem walk (p0 : Option Addr) (n0 c0 : Nat) (p1 : Option Addr) (n1 c1 : Nat) (w : World) (q0 : (PSlice 1 (PStr)) w [.slice p0 n0 c0]) (q1 : (PSlice 1 (PInt .i64)) w [.slice p1 n1 c1]) :
    Calls Try.prog 8 #[.slice p0 n0 c0, .slice p1 n1 c1] w fun e w' => e = .returned (.bool true) ∧ Below w.heap.size w w' := by
  obtain ⟨ss, h1, _, _, h2, h3⟩ := rows_in rowStr (fun x => x.size ≤ maxLen) q0 str_row
  obtain ⟨zs, g1, _, _, g2, _⟩ := rows_in rowI (fun x => (Lit.int .i64 x).wf = true) q1 int_row
  exact law_of (sends_c w p0 p1 n0 c0 n1 c1 ss zs h1 g1 h3 h2 g2)

set_option maxRecDepth 100000 in
theorem lifted (os : Os) (started : os.Started) (H : Type) (enc : TypeId × Value → H) :
    ReturnsInHanded {} Try.checked os 8 .any (Rows.filerSendsSpec.pre6 enc Try.prog Try.f8 Rows.filerSendsRow.domain false) (Rows.filerSendsSpec.post enc Try.prog Try.f8 false true false false) := by
  refine returnsInHanded_of_change (C := Try.checked) own started (by kernel_rfl) Try.func8
    (ChangeSpec.witness6 (enc := enc) (C := Try.checked) false ⟨#[], #[.slice none 0 0, .slice none 0 0], []⟩ 8 (by kernel_rfl) (by kernel_rfl) (by kernel_rfl) (by kernel_rfl)) ?_
  intro W base args ds gs before hval0 hW hcnd _
  have hval : ∀ (j : Nat) t v, Try.f8.params[j]? = some t → args[j]? = some v → Value.okWide Try.prog W .any base t v := hval0
  have hW' := hW
  obtain ⟨p, q, hA0, hV, rfl, hfz, hnd⟩ := hW
  have hA : DataW.TrodAll enc Try.prog W 0 (fun _ => true) true Try.f8.params.toList args.toList ds p := hA0
  rw [Try.params8] at hA hval
  obtain ⟨v0, vs0, d0, ds0, p0, q0, hargs, rfl, rfl, h0, r0⟩ := trodAll_cons hA
  obtain ⟨v1, vs1, d1, ds1, p1, q1, rfl, rfl, rfl, h1, r1⟩ := trodAll_cons r0
  obtain ⟨rfl, rfl, rfl⟩ := trodAll_nil r1
  obtain rfl : args = #[v0, v1] := by cases args; simp_all
  obtain ⟨rfl, rfl⟩ := trodVars_none hV
  have k0 := h0
  have lt0 : ∀ x ∈ p0, x.block < W.heap.size := by obtain ⟨m, hm⟩ := k0; exact DataW.trod_lt m _ _ _ hm
  obtain ⟨A0, n0, c0, rfl⟩ := okWide_slice (inferInstance : TSlc Try.prog 86 _).und (hval 0 86 v0 rfl rfl)
  have q0 : (PSlice 1 (PStr)) W [.slice A0 n0 c0] := by obtain ⟨m, hm⟩ := k0; exact (inferInstance : Tr Try.prog 86 (PSlice 1 (PStr))).of _ _ _ _ _ _ _ hm
  have k1 := h1
  have lt1 : ∀ x ∈ p1, x.block < W.heap.size := by obtain ⟨m, hm⟩ := k1; exact DataW.trod_lt m _ _ _ hm
  obtain ⟨A1, n1, c1, rfl⟩ := okWide_slice (inferInstance : TSlc Try.prog 36 _).und (hval 1 36 v1 rfl rfl)
  have q1 : (PSlice 1 (PInt .i64)) W [.slice A1 n1 c1] := by obtain ⟨m, hm⟩ := k1; exact (inferInstance : Tr Try.prog 36 (PSlice 1 (PInt .i64))).of _ _ _ _ _ _ _ hm
  clear hA0 hval0
  refine (walk A0 n0 c0 A1 n1 c1 W q0 q1).mono fun e W' ⟨he, bel⟩ => ?_
  subst he
  exact ⟨_, rfl, _, _, _, [], _, [], hW', trodAll_mk1 (shut_bool Try.underlying4 _), (trodAll_cons_mk (Below.trod laidOut (by kernel_rfl) (of_decide_eq_true (by kernel_rfl)) k0 bel lt0) (trodAll_cons_mk (Below.trod laidOut (by kernel_rfl) (of_decide_eq_true (by kernel_rfl)) k1 bel lt1) trodAll_mk0)), rfl, bel.frame _, fun h => by cases h⟩

theorem over : Rows.filerSendsRow.holds Try.pinned (OpenSpec.ofChange Rows.filerSendsSpec) :=
  OpenClaim.holds_of_wide 8 Try.f8 rfl rfl rfl rfl rfl rfl rfl ⟨rfl, rfl, rfl, rfl, rfl⟩ rfl rfl rfl rfl rfl (by kernel_rfl) Try.func8 (by kernel_rfl)
    (of_decide_eq_true (by kernel_rfl)) (by unfold Func.isWrapper; first | (rw [if_pos (by decide +kernel)]; kernel_rfl) | (rw [if_neg (by decide +kernel)]; exact ⟨rfl, rfl⟩))
    (fun os started H enc _ => lifted os started H enc)

theorem proved : Rows.FilerSendsSaid := over
#print axioms proved
end Go.Proofs.Ytpghbkkjdfaflaa.filerSends
