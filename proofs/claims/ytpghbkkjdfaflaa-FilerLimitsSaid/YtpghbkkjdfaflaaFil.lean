/- Filer: pieces as bytes, and what they say; objects that are not whole. -/
import Derived.Test.YtpghbkkjdfaflaaRd
namespace Go.Proofs.Ytpghbkkjdfaflaa
open Go.SL
attribute [local irreducible] Val ValS Does WN WB WK Sat Ctr Wn Tfin
set_option linter.unusedVariables false
set_option linter.unusedSimpArgs false
open Go.RowKit
attribute [local irreducible] be
def rowO (o : Int × ByteArray) : List Value := [.int .u32 o.1, .string o.2]
def objV (o : Int × ByteArray) : Value := .agg (rowO o).toArray
def obj0 : Value := .agg #[.int .u32 0, .string emp]
def pieceV (id n k : Int) (t : ByteArray) : Value := .agg #[.int .u32 id, .int .i64 n, .int .i64 k, .string t]
/-- What a piece must be. -/
def okP (n k : Int) (t : ByteArray) : Prop := n ≤ 20000 ∧ k ≤ n ∧ k % 500 = 0 ∧ (t.size : Int) = min (n - k) 500 ∧ ¬ (t.size = 0 ∧ n > 0)
instance (n k : Int) (t : ByteArray) : Decidable (okP n k t) := inferInstanceAs (Decidable (_ ∧ _ ∧ _ ∧ _ ∧ ¬ (_ ∧ _)))
theorem rU32_be (x : Int) (h0 : 0 ≤ x) (h1 : x < 4294967296) (g : Nat) (r : ByteArray) : Ctr Try.prog 111 [ptr g] [rdr g (be 4 x ++ r) 0] (fun v L => v = .int .u32 x ∧ L = [rdr g r 0]) := by
  have := rU32_c g (be 4 x ++ r) 0
  have e1 : rdTake (be 4 x ++ r) 0 4 = (be 4 x, r, 0) := rdTake_app 4 _ _ (be_size 4 x)
  rw [e1] at this
  simp only at this
  rw [beN_be_lt 4 x h0 (by omega)] at this
  exact this
def pieceB (id n k : Int) (t : ByteArray) : ByteArray := be 4 id ++ (be 4 n ++ (be 4 k ++ t))
set_option maxHeartbeats 1000000 in
theorem parse_c (id n k : Int) (t : ByteArray) (i0 : 0 ≤ id) (i1 : id < 4294967296) (n0 : 0 ≤ n) (n1 : n < 4294967296) (k0 : 0 ≤ k) (k1 : k < 4294967296) (ht : t.size ≤ 9223372036854775795) :
    Ctr Try.prog 66 [.string (pieceB id n k t)] [] (fun v L => v = .tuple #[if okP n k t then pieceV id n k t else pieceV 0 0 0 emp, .bool (decide (okP n k t))] ∧ L = []) := by
  refine ctr_ Try.func66 rfl Try.ntmps66 rfl fun E R => ?_
  have hk5 : k.tmod 500 = k % 500 := Int.tmod_eq_emod_of_nonneg k0
  repeat' (first | (apply gCv_; refine w_cvn (k := ?_)) | (apply gBi_; first | refine w_bsE (k := ?_) | refine w_cat (k := ?_)) | (apply gCa_; first | refine w_cg (New_c _) (k := fun _ => ?_) | refine w_cd (rU32_be id i0 i1 _ _) (k := ?_) | refine w_cd (rU32_be n n0 n1 _ _) (k := ?_) | refine w_cd (rU32_be k k0 k1 _ _) (k := ?_) | refine w_cd (Rest_c _ _) (k := ?_) | refine w_cd (Err_c _ _ _) (k := ?_)) | (first | (apply gMv_; refine w_mv (k := ?_)) | (apply gN_; first | refine nxt_ ?_ | refine rend_ ?_ | refine nxtD_ rfl ?_ | refine rendD_ (by kernel_rfl) ?_ | refine nxtT_ rfl ?_ | refine rendT_ (by kernel_rfl) ?_ | refine fk_ ?_ | refine nxtF_ (by kernel_rfl) rfl rfl ?_ ?_ | refine nxtF3_ (by kernel_rfl) rfl rfl rfl ?_ ?_ ?_) | (apply gLd_; first | refine w_ld (k := ?_) | refine w_lA (k := ?_) | refine w_lr (k := ?_) | refine w_lvc (k := ?_) | refine w_lvA (k := ?_) | refine w_l2 (k := ?_)) | (apply gG_; first | refine w_on (k := ?_) | refine w_of (k := ?_) | refine gcaseD_ rfl rfl rfl (fun h h' => ?_) (fun h h' => ?_) | refine gcaseE_ rfl rfl rfl (fun h h' => ?_) (fun h h' => ?_) | refine gcaseN_ rfl rfl rfl (fun h h' => ?_) (fun h h' => ?_) | refine gcase_ rfl rfl rfl (fun h => ?_) (fun h => ?_)) | (apply gSt_; first | refine w_st (k := ?_) | refine w_sA (k := ?_)) | (apply cSeq_; refine seq_ ?_) | (apply cReg_; refine region_ ?_) | (apply cIf_; first | refine ifT_ rfl ?_ | refine ifF_ rfl ?_ | refine ifB_ rfl (by assumption) ?_ | refine ifC_ rfl (by assumption) ?_ | refine ifD_ rfl (fun h => ?_) (fun h => ?_) | refine ifE_ rfl (fun h => ?_) (fun h => ?_) | refine ifN_ rfl (fun h => ?_) (fun h => ?_) | refine if_ rfl (fun h => ?_) (fun h => ?_)) | (apply gBd_; refine w_bd (k := ?_)) | (apply gBs_; refine w_bs (k := fun _ => ?_)) | (apply gBx_; refine w_bx (k := fun _ => ?_)) | (apply gAl_; refine w_al (k := fun _ => ?_)) | (apply gCv_; first | refine w_cv (k := ?_) | refine w_cB (kk := ?_) | refine w_cB2 (kk := ?_)) | (apply gAs_; refine w_as (k := ?_)) | (apply gFa_; refine w_fa (k := ?_)) | (apply gBi_; refine w_bi (k := ?_)) | (apply gPi_; refine w_pi (k := ?_)) | (apply gNc_; refine w_nc (k := ?_)) | (apply gXt_; refine w_xt (k := ?_)) | (apply gCB_; first | refine w_cb (k := ?_) | refine w_ap1 (k' := fun _ _ _ => ?_)) | (apply gUn_; refine w_un (k := ?_)) | (apply gFl_; refine w_fl (k := ?_)) | (apply gSl_; first | refine w_sV (k := ?_) | refine w_sl (k := ?_)) | (apply gIx_; refine w_ix (k := ?_)) | (apply gIa_; refine w_iA (k := ?_)) | (apply gMf_; refine w_mf (k := ?_)) | (apply cSkip_; refine skip_ ?_) | (apply cBlock_; refine block_ ?_) | (apply cBlk_; refine blk_ ?_) | (apply cExit_; refine exit_ rfl ?_)))
  all_goals first
    | (have hb : ¬ okP n k t := by unfold okP; rw [← hk5]; omega
       rw [if_neg hb, decide_eq_false hb]
       exact e_retW [.cell 2 125, .tmp 3] (.cell rfl .head rfl (.tmp rfl .nil)))
    | (have hb : okP n k t := by unfold okP; rw [← hk5]; omega
       rw [if_pos hb, decide_eq_true hb]
       exact e_retW [.cell 2 125, .tmp 3] (.cell rfl .head rfl (.tmp rfl .nil)))
end Go.Proofs.Ytpghbkkjdfaflaa
