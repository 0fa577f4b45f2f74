/- Package octet: numbers read. -/
import Derived.Test.YtpghbkkjdfaflaaOct
import Derived.Test.YtpghbkkjdfaflaaNum
namespace Go.Proofs.Ytpghbkkjdfaflaa
open Go.SL
attribute [local irreducible] Val ValS Does WN WB WK Sat Ctr Wn Tfin
set_option linter.unusedVariables false
set_option linter.unusedSimpArgs false
open Go.RowKit
/-- What the first i bytes of a string say. -/
def beP (t : ByteArray) (i : Nat) : Int := (beL (t.data.toList.take i) : Int)
theorem beP_zero (t : ByteArray) : beP t 0 = 0 := by simp [beP, beL]
theorem beP_all (t : ByteArray) : beP t t.size = beN t := by
  unfold beP beN
  rw [List.take_of_length_le (by simp)]
theorem beP_bound (t : ByteArray) (i : Nat) (h : i < 8) : beL (t.data.toList.take i) < 72057594037927936 := by
  have h1 := beL_lt _ (t.data.toList.take i) rfl
  have h2 : (t.data.toList.take i).length ≤ 7 := by simp; omega
  have h3 : 256 ^ (t.data.toList.take i).length ≤ 256 ^ 7 := Nat.pow_le_pow_right (by omega) h2
  exact Nat.lt_of_lt_of_le h1 h3
theorem beP_succ (t : ByteArray) (i : Nat) (h : i < t.size) (h8 : i < 8) : bits .or .u64 (IntKind.u64.wrap (beP t i * 2 ^ (min (8 : Int).toNat 64))) (IntKind.u64.wrap (byteAt t (i : Int))) = beP t (i + 1) := by
  have hb := byteAt_range t (i : Int)
  have hx := beP_bound t i h8
  have e1 : (beP t i * 2 ^ (min (8 : Int).toNat 64)) = ((beL (t.data.toList.take i) * 256 : Nat) : Int) := by
    show (beL (t.data.toList.take i) : Int) * 2 ^ 8 = _
    omega
  have w1 : IntKind.u64.wrap (beP t i * 2 ^ (min (8 : Int).toNat 64)) = beP t i * 2 ^ (min (8 : Int).toNat 64) := by
    rw [wrap_u64, e1]
    refine Int.emod_eq_of_lt (Int.natCast_nonneg _) (Int.ofNat_lt.2 ?_)
    exact Nat.lt_of_lt_of_le (Nat.mul_lt_mul_of_pos_right hx (by omega)) (Nat.le_refl _)
  have w2 : IntKind.u64.wrap (byteAt t (i : Int)) = byteAt t (i : Int) := by
    rw [wrap_u64]
    exact Int.emod_eq_of_lt hb.1 (by omega)
  rw [w1, w2, byteAt_eq t i h]
  have hl : i < t.data.toList.length := by simpa using h
  have := or_byte (beL (t.data.toList.take i)) (t.data.toList[i]'hl).toNat hx (t.data.toList[i]'hl).toNat_lt
  unfold beP
  rw [this, List.take_succ_eq_append_getElem hl, beL_snoc]
theorem rdTake_size (s : ByteArray) (e k : Int) (h : 0 ≤ k) : ((rdTake s e k).1.size : Int) ≤ k := by
  unfold rdTake
  split
  · simp [emp]; exact h
  · split
    · simp [emp]; exact h
    · split
      · simp [emp]; exact h
      · simp [ByteArray.size_extract]; omega
theorem number_c (g : Nat) (s : ByteArray) (e k : Int) (h0 : 0 ≤ k) (h8 : k ≤ 8) : Ctr Try.prog 131 [ptr g, .int .i64 k] [rdr g s e]
    (fun v L => v = .int .u64 (beN (rdTake s e k).1) ∧ L = [rdr g (rdTake s e k).2.1 (rdTake s e k).2.2]) := by
  have hsz := rdTake_size s e k h0
  generalize ht : rdTake s e k = q at *
  obtain ⟨t, s', e'⟩ := q
  simp only at hsz ⊢
  have hT : Ctr Try.prog 126 [ptr g, .int .i64 k] [rdr g s e] (fun v L => v = .string t ∧ L = [rdr g s' e']) := by
    have := Take_c g s e k
    rw [ht] at this
    exact this
  have ht8 : t.size ≤ 8 := by omega
  clear ht
  refine ctr_ Try.func131 rfl Try.ntmps131 rfl fun E R => ?_
  repeat' (first | refine cd_ rfl hT (.cons .head .nil) rfl (by kernel_rfl) (by (first | exact trivial | exact .inl rfl | (refine .inr ?_; (repeat (first | exact .nil | ((first | apply Sel.cons | apply Cut.cons); repeat (first | exact .head | apply Pl.tail))))))) ?_ | (first | (apply gMv_; refine w_mv (k := ?_)) | (apply gN_; first | refine nxt_ ?_ | refine rend_ ?_ | refine nxtD_ rfl ?_ | refine rendD_ (by kernel_rfl) ?_ | refine nxtT_ rfl ?_ | refine rendT_ (by kernel_rfl) ?_ | refine fk_ ?_ | refine nxtF_ (by kernel_rfl) rfl rfl ?_ ?_ | refine nxtF3_ (by kernel_rfl) rfl rfl rfl ?_ ?_ ?_) | (apply gLd_; first | refine w_ld (k := ?_) | refine w_lA (k := ?_) | refine w_lr (k := ?_) | refine w_lvc (k := ?_) | refine w_lvA (k := ?_) | refine w_l2 (k := ?_)) | (apply gG_; first | refine w_on (k := ?_) | refine w_of (k := ?_) | refine gcaseD_ rfl rfl rfl (fun h h' => ?_) (fun h h' => ?_) | refine gcaseE_ rfl rfl rfl (fun h h' => ?_) (fun h h' => ?_) | refine gcaseN_ rfl rfl rfl (fun h h' => ?_) (fun h h' => ?_) | refine gcase_ rfl rfl rfl (fun h => ?_) (fun h => ?_)) | (apply gSt_; first | refine w_st (k := ?_) | refine w_sA (k := ?_)) | (apply cSeq_; refine seq_ ?_) | (apply cReg_; refine region_ ?_) | (apply cIf_; first | refine ifT_ rfl ?_ | refine ifF_ rfl ?_ | refine ifB_ rfl (by assumption) ?_ | refine ifC_ rfl (by assumption) ?_ | refine ifD_ rfl (fun h => ?_) (fun h => ?_) | refine ifE_ rfl (fun h => ?_) (fun h => ?_) | refine ifN_ rfl (fun h => ?_) (fun h => ?_) | refine if_ rfl (fun h => ?_) (fun h => ?_)) | (apply gBd_; refine w_bd (k := ?_)) | (apply gBs_; refine w_bs (k := fun _ => ?_)) | (apply gBx_; refine w_bx (k := fun _ => ?_)) | (apply gAl_; refine w_al (k := fun _ => ?_)) | (apply gCv_; first | refine w_cv (k := ?_) | refine w_cB (kk := ?_) | refine w_cB2 (kk := ?_)) | (apply gAs_; refine w_as (k := ?_)) | (apply gFa_; refine w_fa (k := ?_)) | (apply gBi_; refine w_bi (k := ?_)) | (apply gPi_; refine w_pi (k := ?_)) | (apply gNc_; refine w_nc (k := ?_)) | (apply gXt_; refine w_xt (k := ?_)) | (apply gCB_; first | refine w_cb (k := ?_) | refine w_ap1 (k' := fun _ _ _ => ?_)) | (apply gUn_; refine w_un (k := ?_)) | (apply gFl_; refine w_fl (k := ?_)) | (apply gSl_; first | refine w_sV (k := ?_) | refine w_sl (k := ?_)) | (apply gIx_; refine w_ix (k := ?_)) | (apply gIa_; refine w_iA (k := ?_)) | (apply gMf_; refine w_mf (k := ?_)) | (apply cSkip_; refine skip_ ?_) | (apply cBlock_; refine block_ ?_) | (apply cBlk_; refine blk_ ?_) | (apply cExit_; refine exit_ rfl ?_)))
  refine loop_ (M := [rdr g s' e', R]) (fun m env L => ∃ i : Nat, m = t.size - i ∧ i ≤ t.size ∧ env = [(5, .int .u64 (beP t i)), (6, .string t), (12, .int .i64 t.size), (13, .int .i64 i)] ∧ L = [rdr g s' e', R]) t.size [5, 6, 12, 13] rfl (by ((repeat (first | exact .nil | ((first | apply Sel.cons | apply Cut.cons); repeat (first | exact .head | apply Pl.tail)))); first | done | fail)) ⟨0, rfl, Nat.zero_le _, by rw [beP_zero]; rfl, rfl⟩ ?_
  rintro m env L ⟨i, hm, hi, rfl, rfl⟩
  repeat' (first | (apply gMv_; refine w_mv (k := ?_)) | (apply gN_; first | refine nxt_ ?_ | refine rend_ ?_ | refine nxtD_ rfl ?_ | refine rendD_ (by kernel_rfl) ?_ | refine nxtT_ rfl ?_ | refine rendT_ (by kernel_rfl) ?_ | refine fk_ ?_ | refine nxtF_ (by kernel_rfl) rfl rfl ?_ ?_ | refine nxtF3_ (by kernel_rfl) rfl rfl rfl ?_ ?_ ?_) | (apply gLd_; first | refine w_ld (k := ?_) | refine w_lA (k := ?_) | refine w_lr (k := ?_) | refine w_lvc (k := ?_) | refine w_lvA (k := ?_) | refine w_l2 (k := ?_)) | (apply gG_; first | refine w_on (k := ?_) | refine w_of (k := ?_) | refine gcaseD_ rfl rfl rfl (fun h h' => ?_) (fun h h' => ?_) | refine gcaseE_ rfl rfl rfl (fun h h' => ?_) (fun h h' => ?_) | refine gcaseN_ rfl rfl rfl (fun h h' => ?_) (fun h h' => ?_) | refine gcase_ rfl rfl rfl (fun h => ?_) (fun h => ?_)) | (apply gSt_; first | refine w_st (k := ?_) | refine w_sA (k := ?_)) | (apply cSeq_; refine seq_ ?_) | (apply cReg_; refine region_ ?_) | (apply cIf_; first | refine ifT_ rfl ?_ | refine ifF_ rfl ?_ | refine ifB_ rfl (by assumption) ?_ | refine ifC_ rfl (by assumption) ?_ | refine ifD_ rfl (fun h => ?_) (fun h => ?_) | refine ifE_ rfl (fun h => ?_) (fun h => ?_) | refine ifN_ rfl (fun h => ?_) (fun h => ?_) | refine if_ rfl (fun h => ?_) (fun h => ?_)) | (apply gBd_; refine w_bd (k := ?_)) | (apply gBs_; refine w_bs (k := fun _ => ?_)) | (apply gBx_; refine w_bx (k := fun _ => ?_)) | (apply gAl_; refine w_al (k := fun _ => ?_)) | (apply gCv_; first | refine w_cv (k := ?_) | refine w_cB (kk := ?_) | refine w_cB2 (kk := ?_)) | (apply gAs_; refine w_as (k := ?_)) | (apply gFa_; refine w_fa (k := ?_)) | (apply gBi_; refine w_bi (k := ?_)) | (apply gPi_; refine w_pi (k := ?_)) | (apply gNc_; refine w_nc (k := ?_)) | (apply gXt_; refine w_xt (k := ?_)) | (apply gCB_; first | refine w_cb (k := ?_) | refine w_ap1 (k' := fun _ _ _ => ?_)) | (apply gUn_; refine w_un (k := ?_)) | (apply gFl_; refine w_fl (k := ?_)) | (apply gSl_; first | refine w_sV (k := ?_) | refine w_sl (k := ?_)) | (apply gIx_; refine w_ix (k := ?_)) | (apply gIa_; refine w_iA (k := ?_)) | (apply gMf_; refine w_mf (k := ?_)) | (apply cSkip_; refine skip_ ?_) | (apply cBlock_; refine block_ ?_) | (apply cBlk_; refine blk_ ?_) | (apply cExit_; refine exit_ rfl ?_))
  · have hlt : i < t.size := by omega
    refine stopAt_ (M := [rdr g s' e', R]) [5, 6, 12, 13] rfl (by ((repeat (first | exact .nil | ((first | apply Sel.cons | apply Cut.cons); repeat (first | exact .head | apply Pl.tail)))); first | done | fail)) ⟨t.size - (i + 1), by omega, i + 1, rfl, by omega, ?_, rfl⟩
    have e2 := beP_succ t i hlt (by omega)
    simp only [IntKind.bits] at e2 ⊢
    rw [e2]
    rfl
  · have e3 : i = t.size := by omega
    subst e3
    refine retD_ (rs := [.tmp 4]) rfl rfl ?_ (by ((repeat (first | exact .nil | ((first | apply Sel.cons | apply Cut.cons); repeat (first | exact .head | apply Pl.tail)))); first | done | fail))
    rw [beP_all]
    rfl
end Go.Proofs.Ytpghbkkjdfaflaa
