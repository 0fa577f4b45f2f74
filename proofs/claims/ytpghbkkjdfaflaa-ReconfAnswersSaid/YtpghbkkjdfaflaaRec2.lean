/- Streams asked for (reconf): the parameters, made and read. -/
import Derived.Test.YtpghbkkjdfaflaaRec
namespace Go.Proofs.Ytpghbkkjdfaflaa
open Go.SL
attribute [local irreducible] Val ValS Does WN WB WK Sat Ctr Wn Tfin
set_option linter.unusedVariables false
set_option linter.unusedSimpArgs false
open Go.RowKit
def par (t : Int) (v : ByteArray) : Value := .agg #[.int .i64 t, .string v]
theorem More_c (id many : Int) (h0 : 0 ≤ id) (h1 : id < 4294967296) : Ctr Try.prog 22 [.int .u32 id, .int .i64 many] [] (fun v L => v = par 17 (be 4 id ++ be 2 many ++ be 2 0) ∧ L = []) := by
  have e1 := be_size 4 id
  have e2 := be_size 2 many
  have e3 := be_size 2 0
  have e4 : (be 4 id ++ be 2 many).size = 6 := by rw [ByteArray.size_append]; omega
  refine ctr_ Try.func22 rfl Try.ntmps22 rfl fun E R => ?_
  repeat' (first | (apply gCa_; first | refine w_cd (U32_c _) (k := ?_) | refine w_cd (U16_c _) (k := ?_)) | (first | (apply gMv_; refine w_mv (k := ?_)) | (apply gN_; first | refine nxt_ ?_ | refine rend_ ?_ | refine nxtD_ rfl ?_ | refine rendD_ (by kernel_rfl) ?_ | refine nxtT_ rfl ?_ | refine rendT_ (by kernel_rfl) ?_ | refine fk_ ?_ | refine nxtF_ (by kernel_rfl) rfl rfl ?_ ?_ | refine nxtF3_ (by kernel_rfl) rfl rfl rfl ?_ ?_ ?_) | (apply gLd_; first | refine w_ld (k := ?_) | refine w_lA (k := ?_) | refine w_lr (k := ?_) | refine w_l2 (k := ?_)) | (apply gG_; first | refine w_on (k := ?_) | refine w_of (k := ?_) | refine gcaseD_ rfl rfl rfl (fun h h' => ?_) (fun h h' => ?_) | refine gcaseE_ rfl rfl rfl (fun h h' => ?_) (fun h h' => ?_) | refine gcaseN_ rfl rfl rfl (fun h h' => ?_) (fun h h' => ?_) | refine gcase_ rfl rfl rfl (fun h => ?_) (fun h => ?_)) | (apply gSt_; first | refine w_st (k := ?_) | refine w_sA (k := ?_)) | (apply cSeq_; refine seq_ ?_) | (apply cReg_; refine region_ ?_) | (apply cIf_; first | refine ifT_ rfl ?_ | refine ifF_ rfl ?_ | refine ifB_ rfl (by assumption) ?_ | refine ifC_ rfl (by assumption) ?_ | refine ifD_ rfl (fun h => ?_) (fun h => ?_) | refine ifE_ rfl (fun h => ?_) (fun h => ?_) | refine ifN_ rfl (fun h => ?_) (fun h => ?_) | refine if_ rfl (fun h => ?_) (fun h => ?_)) | (apply gBd_; refine w_bd (k := ?_)) | (apply gBs_; refine w_bs (k := fun _ => ?_)) | (apply gBx_; refine w_bx (k := fun _ => ?_)) | (apply gAl_; refine w_al (k := fun _ => ?_)) | (apply gCv_; first | refine w_cv (k := ?_) | refine w_cB (kk := ?_) | refine w_cB2 (kk := ?_)) | (apply gAs_; refine w_as (k := ?_)) | (apply gFa_; refine w_fa (k := ?_)) | (apply gBi_; refine w_bi (k := ?_)) | (apply gPi_; refine w_pi (k := ?_)) | (apply gNc_; refine w_nc (k := ?_)) | (apply gXt_; refine w_xt (k := ?_)) | (apply gCB_; refine w_cb (k := ?_)) | (apply gUn_; refine w_un (k := ?_)) | (apply gFl_; refine w_fl (k := ?_)) | (apply gSl_; refine w_sl (k := ?_)) | (apply gIx_; refine w_ix (k := ?_)) | (apply gIa_; refine w_ia (k := ?_)) | (apply gMf_; refine w_mf (k := ?_)) | (apply cSkip_; refine skip_ ?_) | (apply cBlock_; refine block_ ?_) | (apply cBlk_; refine blk_ ?_) | (apply cExit_; refine exit_ rfl ?_)))
  refine retWD_ (rs := [.cell 4 41]) rfl (.cell rfl .head rfl .nil) rfl (by (repeat (first | exact .nil | ((first | apply Sel.cons | apply Cut.cons); repeat (first | exact .head | apply Pl.tail)))))
theorem Result_c (id what : Int) (h0 : 0 ≤ id) (h1 : id < 4294967296) (h2 : 0 ≤ what) (h3 : what < 4294967296) : Ctr Try.prog 76 [.int .u32 id, .int .i64 what] [] (fun v L => v = par 16 (be 4 id ++ be 4 what) ∧ L = []) := by
  have e1 := be_size 4 id
  have e2 := be_size 4 what
  have hw : IntKind.u32.wrap what = what := by rw [wrap_u32]; omega
  have hU : Ctr Try.prog 71 [.int .u32 (IntKind.u32.wrap what)] [] (fun v L => v = .string (be 4 what) ∧ L = []) := by rw [hw]; exact U32_c what
  refine ctr_ Try.func76 rfl Try.ntmps76 rfl fun E R => ?_
  repeat' (first | (apply gCa_; first | refine w_cd (hU) (k := ?_) | refine w_cd (U32_c _) (k := ?_)) | (first | (apply gMv_; refine w_mv (k := ?_)) | (apply gN_; first | refine nxt_ ?_ | refine rend_ ?_ | refine nxtD_ rfl ?_ | refine rendD_ (by kernel_rfl) ?_ | refine nxtT_ rfl ?_ | refine rendT_ (by kernel_rfl) ?_ | refine fk_ ?_ | refine nxtF_ (by kernel_rfl) rfl rfl ?_ ?_ | refine nxtF3_ (by kernel_rfl) rfl rfl rfl ?_ ?_ ?_) | (apply gLd_; first | refine w_ld (k := ?_) | refine w_lA (k := ?_) | refine w_lr (k := ?_) | refine w_l2 (k := ?_)) | (apply gG_; first | refine w_on (k := ?_) | refine w_of (k := ?_) | refine gcaseD_ rfl rfl rfl (fun h h' => ?_) (fun h h' => ?_) | refine gcaseE_ rfl rfl rfl (fun h h' => ?_) (fun h h' => ?_) | refine gcaseN_ rfl rfl rfl (fun h h' => ?_) (fun h h' => ?_) | refine gcase_ rfl rfl rfl (fun h => ?_) (fun h => ?_)) | (apply gSt_; first | refine w_st (k := ?_) | refine w_sA (k := ?_)) | (apply cSeq_; refine seq_ ?_) | (apply cReg_; refine region_ ?_) | (apply cIf_; first | refine ifT_ rfl ?_ | refine ifF_ rfl ?_ | refine ifB_ rfl (by assumption) ?_ | refine ifC_ rfl (by assumption) ?_ | refine ifD_ rfl (fun h => ?_) (fun h => ?_) | refine ifE_ rfl (fun h => ?_) (fun h => ?_) | refine ifN_ rfl (fun h => ?_) (fun h => ?_) | refine if_ rfl (fun h => ?_) (fun h => ?_)) | (apply gBd_; refine w_bd (k := ?_)) | (apply gBs_; refine w_bs (k := fun _ => ?_)) | (apply gBx_; refine w_bx (k := fun _ => ?_)) | (apply gAl_; refine w_al (k := fun _ => ?_)) | (apply gCv_; first | refine w_cv (k := ?_) | refine w_cB (kk := ?_) | refine w_cB2 (kk := ?_)) | (apply gAs_; refine w_as (k := ?_)) | (apply gFa_; refine w_fa (k := ?_)) | (apply gBi_; refine w_bi (k := ?_)) | (apply gPi_; refine w_pi (k := ?_)) | (apply gNc_; refine w_nc (k := ?_)) | (apply gXt_; refine w_xt (k := ?_)) | (apply gCB_; refine w_cb (k := ?_)) | (apply gUn_; refine w_un (k := ?_)) | (apply gFl_; refine w_fl (k := ?_)) | (apply gSl_; refine w_sl (k := ?_)) | (apply gIx_; refine w_ix (k := ?_)) | (apply gIa_; refine w_ia (k := ?_)) | (apply gMf_; refine w_mf (k := ?_)) | (apply cSkip_; refine skip_ ?_) | (apply cBlock_; refine block_ ?_) | (apply cBlk_; refine blk_ ?_) | (apply cExit_; refine exit_ rfl ?_)))
  refine retWD_ (rs := [.cell 4 41]) rfl (.cell rfl .head rfl .nil) rfl (by (repeat (first | exact .nil | ((first | apply Sel.cons | apply Cut.cons); repeat (first | exact .head | apply Pl.tail)))))
/-- The first so many bytes read as numbers, one behind the other. -/
def rd1 (v : ByteArray) (k : Int) := rdTake v 0 k
def asMore (t : Int) (v : ByteArray) : Int × Int × Bool :=
  let a := rdTake v 0 4
  let b := rdTake a.2.1 a.2.2 2
  let c := rdTake b.2.1 b.2.2 2
  if t ≠ 17 ∨ rdEnd c.2.1 c.2.2 ≠ 0 ∨ beN c.1 ≠ 0 ∨ beN b.1 = 0 then (0, 0, false) else (beN a.1, beN b.1, true)
set_option maxHeartbeats 1000000 in
theorem AsMore_c (t : Int) (v : ByteArray) : Ctr Try.prog 74 [par t v] [] (fun r L => r = .tuple #[.int .u32 (asMore t v).1, .int .i64 (asMore t v).2.1, .bool (asMore t v).2.2] ∧ L = []) := by
  generalize hq : asMore t v = q
  unfold asMore at hq
  simp only at hq
  generalize ha : rdTake v 0 4 = a at *
  obtain ⟨a1, a2, a3⟩ := a
  simp only at hq
  generalize hb : rdTake a2 a3 2 = b at *
  obtain ⟨b1, b2, b3⟩ := b
  simp only at hq
  generalize hc : rdTake b2 b3 2 = c at *
  obtain ⟨c1, c2, c3⟩ := c
  simp only at hq
  have hA : ∀ g, Ctr Try.prog 111 [ptr g] [rdr g v 0] (fun r L => r = .int .u32 (beN a1) ∧ L = [rdr g a2 a3]) := fun g => by
    have := rU32_c g v 0
    rw [ha] at this
    exact this
  have hB : ∀ g, Ctr Try.prog 114 [ptr g] [rdr g a2 a3] (fun r L => r = .int .i64 (beN b1) ∧ L = [rdr g b2 b3]) := fun g => by
    have := rU16_c g a2 a3
    rw [hb] at this
    exact this
  have hC : ∀ g, Ctr Try.prog 114 [ptr g] [rdr g b2 b3] (fun r L => r = .int .i64 (beN c1) ∧ L = [rdr g c2 c3]) := fun g => by
    have := rU16_c g b2 b3
    rw [hc] at this
    exact this
  refine ctr_ Try.func74 rfl Try.ntmps74 rfl fun E R => ?_
  repeat' (first | (apply gCa_; first | refine w_cg (New_c _) (k := fun _ => ?_) | refine w_cd (hA _) (k := ?_) | refine w_cd (hB _) (k := ?_) | refine w_cd (hC _) (k := ?_) | refine w_cd (rEnd_c _ _ _) (k := ?_)) | (first | (apply gMv_; refine w_mv (k := ?_)) | (apply gN_; first | refine nxt_ ?_ | refine rend_ ?_ | refine nxtD_ rfl ?_ | refine rendD_ (by kernel_rfl) ?_ | refine nxtT_ rfl ?_ | refine rendT_ (by kernel_rfl) ?_ | refine fk_ ?_ | refine nxtF_ (by kernel_rfl) rfl rfl ?_ ?_ | refine nxtF3_ (by kernel_rfl) rfl rfl rfl ?_ ?_ ?_) | (apply gLd_; first | refine w_ld (k := ?_) | refine w_lA (k := ?_) | refine w_lr (k := ?_) | refine w_l2 (k := ?_)) | (apply gG_; first | refine w_on (k := ?_) | refine w_of (k := ?_) | refine gcaseD_ rfl rfl rfl (fun h h' => ?_) (fun h h' => ?_) | refine gcaseE_ rfl rfl rfl (fun h h' => ?_) (fun h h' => ?_) | refine gcaseN_ rfl rfl rfl (fun h h' => ?_) (fun h h' => ?_) | refine gcase_ rfl rfl rfl (fun h => ?_) (fun h => ?_)) | (apply gSt_; first | refine w_st (k := ?_) | refine w_sA (k := ?_)) | (apply cSeq_; refine seq_ ?_) | (apply cReg_; refine region_ ?_) | (apply cIf_; first | refine ifT_ rfl ?_ | refine ifF_ rfl ?_ | refine ifB_ rfl (by assumption) ?_ | refine ifC_ rfl (by assumption) ?_ | refine ifD_ rfl (fun h => ?_) (fun h => ?_) | refine ifE_ rfl (fun h => ?_) (fun h => ?_) | refine ifN_ rfl (fun h => ?_) (fun h => ?_) | refine if_ rfl (fun h => ?_) (fun h => ?_)) | (apply gBd_; refine w_bd (k := ?_)) | (apply gBs_; refine w_bs (k := fun _ => ?_)) | (apply gBx_; refine w_bx (k := fun _ => ?_)) | (apply gAl_; refine w_al (k := fun _ => ?_)) | (apply gCv_; first | refine w_cv (k := ?_) | refine w_cB (kk := ?_) | refine w_cB2 (kk := ?_)) | (apply gAs_; refine w_as (k := ?_)) | (apply gFa_; refine w_fa (k := ?_)) | (apply gBi_; refine w_bi (k := ?_)) | (apply gPi_; refine w_pi (k := ?_)) | (apply gNc_; refine w_nc (k := ?_)) | (apply gXt_; refine w_xt (k := ?_)) | (apply gCB_; refine w_cb (k := ?_)) | (apply gUn_; refine w_un (k := ?_)) | (apply gFl_; refine w_fl (k := ?_)) | (apply gSl_; refine w_sl (k := ?_)) | (apply gIx_; refine w_ix (k := ?_)) | (apply gIa_; refine w_ia (k := ?_)) | (apply gMf_; refine w_mf (k := ?_)) | (apply cSkip_; refine skip_ ?_) | (apply cBlock_; refine block_ ?_) | (apply cBlk_; refine blk_ ?_) | (apply cExit_; refine exit_ rfl ?_)))
  all_goals
    first | rw [if_pos (by omega)] at hq | rw [if_neg (by omega)] at hq
    subst hq
    refine retD_ (rs := [.tmp 2, .tmp 3, .tmp 4]) rfl rfl rfl (by (repeat (first | exact .nil | ((first | apply Sel.cons | apply Cut.cons); repeat (first | exact .head | apply Pl.tail)))))
def asResult (t : Int) (v : ByteArray) : Int × Int × Bool :=
  let a := rdTake v 0 4
  let b := rdTake a.2.1 a.2.2 4
  if t ≠ 16 ∨ rdEnd b.2.1 b.2.2 ≠ 0 ∨ (beN b.1 ≠ 1 ∧ beN b.1 ≠ 2) then (0, 0, false) else (beN a.1, beN b.1, true)
set_option maxHeartbeats 1000000 in
theorem AsResult_c (t : Int) (v : ByteArray) : Ctr Try.prog 79 [par t v] [] (fun r L => r = .tuple #[.int .u32 (asResult t v).1, .int .i64 (asResult t v).2.1, .bool (asResult t v).2.2] ∧ L = []) := by
  generalize hq : asResult t v = q
  unfold asResult at hq
  simp only at hq
  generalize ha : rdTake v 0 4 = a at *
  obtain ⟨a1, a2, a3⟩ := a
  simp only at hq
  generalize hb : rdTake a2 a3 4 = b at *
  obtain ⟨b1, b2, b3⟩ := b
  simp only at hq
  have hA : ∀ g, Ctr Try.prog 111 [ptr g] [rdr g v 0] (fun r L => r = .int .u32 (beN a1) ∧ L = [rdr g a2 a3]) := fun g => by
    have := rU32_c g v 0
    rw [ha] at this
    exact this
  have hB : ∀ g, Ctr Try.prog 111 [ptr g] [rdr g a2 a3] (fun r L => r = .int .u32 (beN b1) ∧ L = [rdr g b2 b3]) := fun g => by
    have := rU32_c g a2 a3
    rw [hb] at this
    exact this
  refine ctr_ Try.func79 rfl Try.ntmps79 rfl fun E R => ?_
  repeat' (first | (apply gCa_; first | refine w_cg (New_c _) (k := fun _ => ?_) | refine w_cd (hA _) (k := ?_) | refine w_cd (hB _) (k := ?_) | refine w_cd (rEnd_c _ _ _) (k := ?_)) | (first | (apply gMv_; refine w_mv (k := ?_)) | (apply gN_; first | refine nxt_ ?_ | refine rend_ ?_ | refine nxtD_ rfl ?_ | refine rendD_ (by kernel_rfl) ?_ | refine nxtT_ rfl ?_ | refine rendT_ (by kernel_rfl) ?_ | refine fk_ ?_ | refine nxtF_ (by kernel_rfl) rfl rfl ?_ ?_ | refine nxtF3_ (by kernel_rfl) rfl rfl rfl ?_ ?_ ?_) | (apply gLd_; first | refine w_ld (k := ?_) | refine w_lA (k := ?_) | refine w_lr (k := ?_) | refine w_l2 (k := ?_)) | (apply gG_; first | refine w_on (k := ?_) | refine w_of (k := ?_) | refine gcaseD_ rfl rfl rfl (fun h h' => ?_) (fun h h' => ?_) | refine gcaseE_ rfl rfl rfl (fun h h' => ?_) (fun h h' => ?_) | refine gcaseN_ rfl rfl rfl (fun h h' => ?_) (fun h h' => ?_) | refine gcase_ rfl rfl rfl (fun h => ?_) (fun h => ?_)) | (apply gSt_; first | refine w_st (k := ?_) | refine w_sA (k := ?_)) | (apply cSeq_; refine seq_ ?_) | (apply cReg_; refine region_ ?_) | (apply cIf_; first | refine ifT_ rfl ?_ | refine ifF_ rfl ?_ | refine ifB_ rfl (by assumption) ?_ | refine ifC_ rfl (by assumption) ?_ | refine ifD_ rfl (fun h => ?_) (fun h => ?_) | refine ifE_ rfl (fun h => ?_) (fun h => ?_) | refine ifN_ rfl (fun h => ?_) (fun h => ?_) | refine if_ rfl (fun h => ?_) (fun h => ?_)) | (apply gBd_; refine w_bd (k := ?_)) | (apply gBs_; refine w_bs (k := fun _ => ?_)) | (apply gBx_; refine w_bx (k := fun _ => ?_)) | (apply gAl_; refine w_al (k := fun _ => ?_)) | (apply gCv_; first | refine w_cv (k := ?_) | refine w_cB (kk := ?_) | refine w_cB2 (kk := ?_)) | (apply gAs_; refine w_as (k := ?_)) | (apply gFa_; refine w_fa (k := ?_)) | (apply gBi_; refine w_bi (k := ?_)) | (apply gPi_; refine w_pi (k := ?_)) | (apply gNc_; refine w_nc (k := ?_)) | (apply gXt_; refine w_xt (k := ?_)) | (apply gCB_; refine w_cb (k := ?_)) | (apply gUn_; refine w_un (k := ?_)) | (apply gFl_; refine w_fl (k := ?_)) | (apply gSl_; refine w_sl (k := ?_)) | (apply gIx_; refine w_ix (k := ?_)) | (apply gIa_; refine w_ia (k := ?_)) | (apply gMf_; refine w_mf (k := ?_)) | (apply cSkip_; refine skip_ ?_) | (apply cBlock_; refine block_ ?_) | (apply cBlk_; refine blk_ ?_) | (apply cExit_; refine exit_ rfl ?_)))
  all_goals first | rw [if_pos (by omega)] at hq | rw [if_neg (by omega)] at hq
  all_goals subst hq
  all_goals try refine retD_ (rs := [.tmp 2, .tmp 3, .tmp 4]) rfl rfl rfl (by (repeat (first | exact .nil | ((first | apply Sel.cons | apply Cut.cons); repeat (first | exact .head | apply Pl.tail)))))
  all_goals
    have e1 : IntKind.i64.wrap (beN b1) = beN b1 := wrap_i64 _ (by omega) (by omega)
    refine retD_ (rs := [.tmp 2, .tmp 3, .tmp 4]) rfl rfl (congrArg (fun z => Value.tuple #[.int .u32 (beN a1), .int .i64 z, .bool true]) e1) (by (repeat (first | exact .nil | ((first | apply Sel.cons | apply Cut.cons); repeat (first | exact .head | apply Pl.tail)))))
/-! Well-formed parameters are read back. -/
theorem rdTake_app (k : Nat) (a b : ByteArray) (h : a.size = k) : rdTake (a ++ b) 0 k = (a, b, 0) := by
  subst h
  unfold rdTake
  have e1 : (a ++ b).size = a.size + b.size := ByteArray.size_append
  rw [if_neg (by simp), if_neg (by omega), if_neg (by omega)]
  have e2 : ((a.size : Nat) : Int).toNat = a.size := by omega
  rw [e2, ext_left, ext_right]
theorem append_emp (a : ByteArray) : a ++ emp = a := by
  apply ByteArray.ext
  simp [emp, ByteArray.data_append]
theorem rdTake_all (k : Nat) (a : ByteArray) (h : a.size = k) : rdTake a 0 k = (a, emp, 0) := by
  have := rdTake_app k a emp h
  rwa [append_emp] at this
theorem emp_size : emp.size = 0 := rfl
theorem asMore_of (id many : Int) (h0 : 0 ≤ id) (h1 : id < 4294967296) (h2 : 1 ≤ many) (h3 : many < 65536) : asMore 17 (be 4 id ++ be 2 many ++ be 2 0) = (id, many, true) := by
  unfold asMore
  rw [show be 4 id ++ be 2 many ++ be 2 0 = be 4 id ++ (be 2 many ++ be 2 0) from ByteArray.append_assoc]
  have r1 : rdTake _ 0 4 = _ := rdTake_app 4 (be 4 id) (be 2 many ++ be 2 0) (be_size 4 id)
  have r2 : rdTake _ 0 2 = _ := rdTake_app 2 (be 2 many) (be 2 0) (be_size 2 many)
  have r3 : rdTake _ 0 2 = _ := rdTake_all 2 (be 2 0) (be_size 2 0)
  have n1 := beN_be_lt 4 id h0 h1
  have n2 := beN_be_lt 2 many (by omega) h3
  have n3 := beN_be_lt 2 0 (by omega) (by omega)
  simp only [r1, r2, r3, n1, n2, n3]
  rw [if_neg]
  unfold rdEnd
  rw [emp_size, if_pos rfl, if_neg (by omega)]
  omega
theorem asResult_of (id what : Int) (h0 : 0 ≤ id) (h1 : id < 4294967296) (h2 : what = 1 ∨ what = 2) : asResult 16 (be 4 id ++ be 4 what) = (id, what, true) := by
  unfold asResult
  have r1 : rdTake _ 0 4 = _ := rdTake_app 4 (be 4 id) (be 4 what) (be_size 4 id)
  have r2 : rdTake _ 0 4 = _ := rdTake_all 4 (be 4 what) (be_size 4 what)
  have n1 := beN_be_lt 4 id h0 h1
  have n2 := beN_be_lt 4 what (by omega) (by omega)
  simp only [r1, r2, n1, n2]
  rw [if_neg]
  unfold rdEnd
  rw [emp_size, if_pos rfl, if_neg (by omega)]
  omega
end Go.Proofs.Ytpghbkkjdfaflaa
