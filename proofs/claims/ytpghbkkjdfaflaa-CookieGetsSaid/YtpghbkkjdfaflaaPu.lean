/- Digests: bytes around the blocks. -/
import Derived.Test.YtpghbkkjdfaflaaBlk
set_option linter.unusedVariables false
set_option linter.unusedSimpArgs false
namespace Go.SL
open Go.RowKit
section
variable {P : Program} {E : World} {n : Nat} {env : En} {L : List SA} {T : Act → World → Prop} {k : List Fr}
/-- The one operation that can come next: all may be read. -/
theorem nxt1_ {ops : Array Oper} {o : Oper} {Ls : List SA} {ds : List Nat} {pi : Pn} {fuel i j : Nat} {b : Array Bool} (hr : (Region.ready .any ops (b.setIfInBounds i true) == [j]) = true) (h1 : nth ops.toList j = some o)
    (k1 : WB P E n ops (QK P E n T k) o o.guard.isNone (.fork Ls ds fuel (b.setIfInBounds i true) j pi) env L) : WN P E n ops (QK P E n T k) (.draw Ls ds (fuel + 1) b i (.cons j pi)) env L := fun a w ha hs hS => by
  rw [← nth_eq, Array.getElem?_toList] at h1
  refine Proofs.YtpghbkkjdfaflaaW.PrintLast.wpAnyLast_all (by simpa using hr) (by simp) fun i hi => ?_
  simp only [List.mem_cons, List.not_mem_nil, or_false] at hi
  subst hi
  exact k1 (fun _ _ _ => QK_panic) (fun hg a ha => wnt _ hg a ha ops) h1 a w ha hs hS
end
theorem be_add (j : Nat) : ∀ (k : Nat) (x : Int), be (j + k) x = be j (x / 256 ^ k) ++ be k x
  | 0, x => by
    apply ByteArray.ext
    simp [be, byt]
  | k + 1, x => by
    have ih := be_add j k (x / 256)
    have e : x / 256 ^ (k + 1) = x / 256 / 256 ^ k := by
      rw [Int.ediv_ediv_of_nonneg (by omega), Int.pow_succ, Int.mul_comm]
    show be (j + k) (x / 256) ++ byt [x % 256] = be j (x / 256 ^ (k + 1)) ++ (be k (x / 256) ++ byt [x % 256])
    rw [ih, e, ByteArray.append_assoc]
theorem be4_mod (x : Int) : be 4 (x % 4294967296) = be 4 x := by
  rw [be_four, be_four]
  have e1 : x % 4294967296 / 16777216 % 256 = x / 16777216 % 256 := by omega
  have e2 : x % 4294967296 / 65536 % 256 = x / 65536 % 256 := by omega
  have e3 : x % 4294967296 / 256 % 256 = x / 256 % 256 := by omega
  have e4 : x % 4294967296 % 256 = x % 256 := by omega
  rw [e1, e2, e3, e4]
theorem be4_modL (x : Int) : be 4 (x % 18446744073709551616) = be 4 x := by
  rw [← be4_mod (x % 18446744073709551616), ← be4_mod x]
  congr 1
  omega
def zN (s : ByteArray) : Nat := (119 - s.size % 64) % 64
theorem padded_eq (s : ByteArray) : padded s = (s ++ byt [128] ++ byt (List.replicate (zN s) 0)) ++ be 8 (IntKind.u64.wrap ((s.size : Int) * 8)) := by
  unfold padded zN
  congr 5
  omega
theorem padded_size (s : ByteArray) : (padded s).size = s.size + 1 + zN s + 8 := by
  rw [padded_eq]
  simp only [ByteArray.size_append, byt_size, be_size, List.length_replicate, List.length_cons, List.length_nil]
theorem padded_mod (s : ByteArray) : (padded s).size % 64 = 0 := by
  rw [padded_size]
  unfold zN
  omega
theorem out5_nil : out5 [] = ⟨#[]⟩ := rfl
theorem out5_snoc (l : List Int) (x : Int) : out5 (l ++ [x]) = out5 l ++ be 4 x := by
  unfold out5
  rw [List.foldl_append]
  rfl
theorem out5_size (l : List Int) : (out5 l).size = 4 * l.length := by
  have key : ∀ (l : List Int) (o : ByteArray), (l.foldl (fun o x => o ++ be 4 x) o).size = o.size + 4 * l.length := by
    intro l
    induction l with
    | nil => intro o; simp
    | cons x l ih =>
      intro o
      rw [List.foldl_cons, ih]
      simp only [ByteArray.size_append, be_size, List.length_cons]
      omega
  unfold out5
  rw [key]
  show (0 : Nat) + _ = _
  omega
theorem out5_take (l : List Int) (i : Nat) (h : i < l.length) : out5 (l.take (i + 1)) = out5 (l.take i) ++ be 4 (l.getD i 0) := by
  rw [List.take_succ_eq_append_getElem h, out5_snoc, List.getD_eq_getElem?_getD, List.getElem?_eq_getElem h]
  rfl
theorem digest_size (s : ByteArray) : (digest s).size = 20 := by
  unfold digest
  rw [out5_size]
  rfl
end Go.SL
namespace Go.Proofs.Ytpghbkkjdfaflaa
open Go.SL
attribute [local irreducible] Val ValS Does WN WB WK Sat Ctr Wn Tfin
set_option linter.unusedVariables false
set_option linter.unusedSimpArgs false
open Go.RowKit
attribute [local irreducible] be
theorem U64_c (n : Int) (h0 : 0 ≤ n) (h1 : n < 18446744073709551616) : Ctr Try.prog 95 [.int .u64 n] [] (fun v L => v = .string (be 8 n) ∧ L = []) := by
  have e : be 8 n = be 4 (IntKind.u32.wrap (n / 4294967296)) ++ be 4 (IntKind.u32.wrap n) := by
    rw [wrap_u32, wrap_u32, be4_mod, be4_mod]
    exact be_add 4 4 n
  rw [e]
  have hq : n.fdiv (2 ^ min (Int.toNat 32) IntKind.u64.bits) = n / 4294967296 := by
    rw [Int.fdiv_eq_ediv_of_nonneg _ (by decide)]
    rfl
  refine ctr_ Try.func95 rfl Try.ntmps95 rfl fun E R => ?_
  repeat' (first | (apply gBi_; refine w_cat (k := ?_)) | (apply gCa_; first | refine w_cd (U32_c _) (k := ?_)) | (first | (apply gMv_; refine w_mv (k := ?_)) | (apply gN_; first | refine nxt_ ?_ | refine rend_ ?_ | refine nxtD_ rfl ?_ | refine rendD_ (by kernel_rfl) ?_ | refine nxtT_ rfl ?_ | refine rendT_ (by kernel_rfl) ?_ | refine fk_ ?_ | refine nxtF_ (by kernel_rfl) rfl rfl ?_ ?_ | refine nxtF3_ (by kernel_rfl) rfl rfl rfl ?_ ?_ ?_) | (apply gLd_; first | refine w_ld (k := ?_) | refine w_lA (k := ?_) | refine w_lr (k := ?_) | refine w_lvc (k := ?_) | refine w_lvA (k := ?_) | refine w_l2 (k := ?_)) | (apply gG_; first | refine w_on (k := ?_) | refine w_of (k := ?_) | refine gcaseD_ rfl rfl rfl (fun h h' => ?_) (fun h h' => ?_) | refine gcaseE_ rfl rfl rfl (fun h h' => ?_) (fun h h' => ?_) | refine gcaseN_ rfl rfl rfl (fun h h' => ?_) (fun h h' => ?_) | refine gcase_ rfl rfl rfl (fun h => ?_) (fun h => ?_)) | (apply gSt_; first | refine w_st (k := ?_) | refine w_sA (k := ?_)) | (apply cSeq_; refine seq_ ?_) | (apply cReg_; refine region_ ?_) | (apply cIf_; first | refine ifT_ rfl ?_ | refine ifF_ rfl ?_ | refine ifB_ rfl (by assumption) ?_ | refine ifC_ rfl (by assumption) ?_ | refine ifD_ rfl (fun h => ?_) (fun h => ?_) | refine ifE_ rfl (fun h => ?_) (fun h => ?_) | refine ifN_ rfl (fun h => ?_) (fun h => ?_) | refine if_ rfl (fun h => ?_) (fun h => ?_)) | (apply gBd_; refine w_bd (k := ?_)) | (apply gBs_; refine w_bs (k := fun _ => ?_)) | (apply gBx_; refine w_bx (k := fun _ => ?_)) | (apply gAl_; refine w_al (k := fun _ => ?_)) | (apply gCv_; first | refine w_cv (k := ?_) | refine w_cB (kk := ?_) | refine w_cB2 (kk := ?_)) | (apply gAs_; refine w_as (k := ?_)) | (apply gFa_; refine w_fa (k := ?_)) | (apply gBi_; refine w_bi (k := ?_)) | (apply gPi_; refine w_pi (k := ?_)) | (apply gNc_; refine w_nc (k := ?_)) | (apply gXt_; refine w_xt (k := ?_)) | (apply gCB_; first | refine w_cb (k := ?_) | refine w_ap1 (k' := fun _ _ _ => ?_)) | (apply gUn_; refine w_un (k := ?_)) | (apply gFl_; refine w_fl (k := ?_)) | (apply gSl_; first | refine w_sV (k := ?_) | refine w_sl (k := ?_)) | (apply gIx_; refine w_ix (k := ?_)) | (apply gIa_; refine w_iA (k := ?_)) | (apply gMf_; refine w_mf (k := ?_)) | (apply cSkip_; refine skip_ ?_) | (apply cBlock_; refine block_ ?_) | (apply cBlk_; refine blk_ ?_) | (apply cExit_; refine exit_ rfl ?_)))
  rw [hq]
  exact e_rets
end Go.Proofs.Ytpghbkkjdfaflaa
