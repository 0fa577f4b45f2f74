/- FilerReads: the law holds for every input (its row): the walk of LFr, in a frame after the kit's own. -/
import Derived.Test.YtpghbkkjdfaflaaRows
import Derived.Test.YtpghbkkjdfaflaaLFr
import Derived.Test.YtpghbkkjdfaflaaTr
import Derived.WalkKit
import Derived.ProofKit
import Derived.OpenShut
import Derived.ShutString
import Derived.ChangeOld
import Derived.Below
import Derived.Carry
namespace Go.Proofs.Ytpghbkkjdfaflaa.filerReads
open Go.ChangeShapes Go.WideShapes Go.ChangeAt Go.RowKit
open Go.SL
set_option linter.unusedVariables false

theorem own : ownKnob Try.prog.godebug = none := by kernel_rfl
theorem laidOut : laidOutB Try.prog = true := by kernel_rfl

theorem walk (s0 : ByteArray) (a1 : Int) (cs2 : Array Value) (w : World) (w0 : s0.size ≤ maxLen) (w1 : (Lit.int .u32 a1).wf = true) (q2 : (PArr 2 2 1 (PInt .i64)) w cs2.toList) :
    Calls Try.prog 3 #[.string s0, .int .u32 a1, .agg cs2] w fun e w' => e = .returned (.bool true) ∧ Below w.heap.size w w' := by
  obtain ⟨hl, hf⟩ := q2
  obtain ⟨a, e1, _⟩ := hf 0 (by omega)
  obtain ⟨b, e2, _⟩ := hf 1 (by omega)
  obtain rfl : cs2 = #[.int .i64 a, .int .i64 b] := by
    apply Array.ext'
    generalize cs2.toList = l at *
    match l, hl with
    | [x, y], _ =>
      simp at e1 e2
      simp [e1, e2]
  exact law_of0 (reads_c s0 a1 a b w0 (u32_lo w1) (u32_hi w1))

set_option maxRecDepth 100000 in
theorem lifted (os : Os) (started : os.Started) (H : Type) (enc : TypeId × Value → H) :
    ReturnsInHanded {} Try.checked os 3 .any (Rows.filerReadsSpec.pre6 enc Try.prog Try.f3 Rows.filerReadsRow.domain false) (Rows.filerReadsSpec.post enc Try.prog Try.f3 false true false false) := by
  refine returnsInHanded_of_change (C := Try.checked) own started (by kernel_rfl) Try.func3
    (ChangeSpec.witness6 (enc := enc) (C := Try.checked) false ⟨#[], #[.string ⟨#[]⟩, .int .u32 0, .agg #[.int .i64 0, .int .i64 0]], []⟩ 8 (by kernel_rfl) (by kernel_rfl) (by kernel_rfl) (by kernel_rfl)) ?_
  intro W base args ds gs before hval0 hW hcnd _
  have hval : ∀ (j : Nat) t v, Try.f3.params[j]? = some t → args[j]? = some v → Value.okWide Try.prog W .any base t v := hval0
  have hW' := hW
  obtain ⟨p, q, hA0, hV, rfl, hfz, hnd⟩ := hW
  have hA : DataW.TrodAll enc Try.prog W 0 (fun _ => true) true Try.f3.params.toList args.toList ds p := hA0
  rw [Try.params3] at hA hval
  obtain ⟨v0, vs0, d0, ds0, p0, q0, hargs, rfl, rfl, h0, r0⟩ := trodAll_cons hA
  obtain ⟨v1, vs1, d1, ds1, p1, q1, rfl, rfl, rfl, h1, r1⟩ := trodAll_cons r0
  obtain ⟨v2, vs2, d2, ds2, p2, q2, rfl, rfl, rfl, h2, r2⟩ := trodAll_cons r1
  obtain ⟨rfl, rfl, rfl⟩ := trodAll_nil r2
  obtain rfl : args = #[v0, v1, v2] := by cases args; simp_all
  obtain ⟨rfl, rfl⟩ := trodVars_none hV
  have k0 := h0
  have lt0 : ∀ x ∈ p0, x.block < W.heap.size := by obtain ⟨m, hm⟩ := k0; exact DataW.trod_lt m _ _ _ hm
  obtain ⟨s0, rfl⟩ := okWide_string (inferInstance : TStr Try.prog 9).und (hval 0 9 v0 rfl rfl)
  obtain ⟨n0, e0, w0⟩ : PStr W [.string s0] := by obtain ⟨m, hm⟩ := k0; exact (inferInstance : Tr Try.prog 9 PStr).of _ _ _ _ _ _ _ hm
  cases e0
  have k1 := h1
  have lt1 : ∀ x ∈ p1, x.block < W.heap.size := by obtain ⟨m, hm⟩ := k1; exact DataW.trod_lt m _ _ _ hm
  obtain ⟨a1, rfl⟩ := okWide_int (inferInstance : TInt Try.prog 22 .u32).und (hval 1 22 v1 rfl rfl)
  obtain ⟨n1, e1, w1⟩ : PInt .u32 W [.int .u32 a1] := by obtain ⟨m, hm⟩ := k1; exact (inferInstance : Tr Try.prog 22 (PInt .u32)).of _ _ _ _ _ _ _ hm
  cases e1
  have k2 := h2
  have lt2 : ∀ x ∈ p2, x.block < W.heap.size := by obtain ⟨m, hm⟩ := k2; exact DataW.trod_lt m _ _ _ hm
  obtain ⟨cs2, rfl⟩ := okWide_agg (t := 23) (by kernel_rfl) (hval 2 23 v2 rfl rfl)
  have q2 : (PArr 2 2 1 (PInt .i64)) W cs2.toList := by obtain ⟨m, hm⟩ := k2; exact (inferInstance : Tr Try.prog 23 (PArr 2 2 1 (PInt .i64))).of _ _ _ _ _ _ _ hm
  clear hA0 hval0
  refine (walk s0 a1 cs2 W w0 w1 q2).mono fun e W' ⟨he, bel⟩ => ?_
  subst he
  exact ⟨_, rfl, _, _, _, [], _, [], hW', trodAll_mk1 (shut_bool Try.underlying4 _), (trodAll_cons_mk (Below.trod laidOut (by kernel_rfl) (of_decide_eq_true (by kernel_rfl)) k0 bel lt0) (trodAll_cons_mk (Below.trod laidOut (by kernel_rfl) (of_decide_eq_true (by kernel_rfl)) k1 bel lt1) (trodAll_cons_mk (Below.trod laidOut (by kernel_rfl) (of_decide_eq_true (by kernel_rfl)) k2 bel lt2) trodAll_mk0))), rfl, bel.frame _, fun h => by cases h⟩

theorem over : Rows.filerReadsRow.holds Try.pinned (OpenSpec.ofChange Rows.filerReadsSpec) :=
  OpenClaim.holds_of_wide 3 Try.f3 rfl rfl rfl rfl rfl rfl rfl ⟨rfl, rfl, rfl, rfl, rfl⟩ rfl rfl rfl rfl rfl (by kernel_rfl) Try.func3 (by kernel_rfl)
    (of_decide_eq_true (by kernel_rfl)) (by unfold Func.isWrapper; first | (rw [if_pos (by decide +kernel)]; kernel_rfl) | (rw [if_neg (by decide +kernel)]; exact ⟨rfl, rfl⟩))
    (fun os started H enc _ => lifted os started H enc)

theorem proved : Rows.FilerReadsSaid := over
#print axioms proved
end Go.Proofs.Ytpghbkkjdfaflaa.filerReads
