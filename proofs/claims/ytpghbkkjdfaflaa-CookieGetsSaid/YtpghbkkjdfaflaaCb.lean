/- Cookies: bytes, seals. -/
import Derived.Test.YtpghbkkjdfaflaaCk
set_option linter.unusedVariables false
set_option linter.unusedSimpArgs false
namespace Go.SL
open Go.RowKit
theorem Ck.may_all {c : Ck} (h : c.may = true) : 0 ≤ c.made ∧ c.mine ≠ 0 ∧ c.yours ≠ 0 ∧ (0 ≤ c.pp ∧ c.pp < 65536) ∧ (0 ≤ c.mp ∧ c.mp < 65536) ∧ (0 ≤ c.out ∧ c.out < 65536) ∧ (0 ≤ c.inn ∧ c.inn < 65536) ∧ c.r1.size = 16 ∧ c.r2.size = 16 := by
  unfold Ck.may wordB at h
  simp only [Bool.and_eq_true, decide_eq_true_eq, bne_iff_ne, beq_iff_eq] at h
  obtain ⟨⟨⟨⟨⟨⟨⟨⟨h1, h2⟩, h3⟩, h4⟩, h5⟩, h6⟩, h7⟩, h8⟩, h9⟩ := h
  exact ⟨h1, h2, h3, h4, h5, h6, h7, by omega, by omega⟩
theorem Ck.raw_size {c : Ck} (h : c.may = true) : c.raw.size = 84 := by
  obtain ⟨_, _, _, _, _, _, _, h8, h9⟩ := c.may_all h
  unfold Ck.raw
  simp only [ByteArray.size_append, be_size, h8, h9]
end Go.SL
namespace Go.Proofs.Ytpghbkkjdfaflaa
open Go.SL
attribute [local irreducible] Val ValS Does WN WB WK Sat Ctr Wn Tfin
set_option linter.unusedVariables false
set_option linter.unusedSimpArgs false
open Go.RowKit
attribute [local irreducible] be macB
set_option maxRecDepth 20000 in
theorem Bytes_c (c : Ck) (ok : c.Ok) : Ctr Try.prog 54 [c.v] [] (fun v L => v = .string c.bytes ∧ L = []) := by
  have hM := May_c c
  refine ctr_ Try.func54 rfl Try.ntmps54 rfl fun E R => ?_
  cases hm : c.may
  case false =>
    rw [hm] at hM
    have e : c.bytes = ⟨#[]⟩ := by unfold Ck.bytes; rw [hm]; rfl
    rw [e]
    repeat' (first | (apply gCa_; first | refine w_cd (hM) (k := ?_)) | (first | (apply gMv_; refine w_mv (k := ?_)) | (apply gN_; first | refine nxt_ ?_ | refine rend_ ?_ | refine nxtD_ rfl ?_ | refine rendD_ (by kernel_rfl) ?_ | refine nxtT_ rfl ?_ | refine rendT_ (by kernel_rfl) ?_ | refine fk_ ?_ | refine nxtF_ (by kernel_rfl) rfl rfl ?_ ?_ | refine nxtF3_ (by kernel_rfl) rfl rfl rfl ?_ ?_ ?_) | (apply gLd_; first | refine w_ld (k := ?_) | refine w_lA (k := ?_) | refine w_lr (k := ?_) | refine w_lvc (k := ?_) | refine w_lvA (k := ?_) | refine w_l2 (k := ?_)) | (apply gG_; first | refine w_on (k := ?_) | refine w_of (k := ?_) | refine gcaseD_ rfl rfl rfl (fun h h' => ?_) (fun h h' => ?_) | refine gcaseE_ rfl rfl rfl (fun h h' => ?_) (fun h h' => ?_) | refine gcaseN_ rfl rfl rfl (fun h h' => ?_) (fun h h' => ?_) | refine gcase_ rfl rfl rfl (fun h => ?_) (fun h => ?_)) | (apply gSt_; first | refine w_st (k := ?_) | refine w_sA (k := ?_)) | (apply cSeq_; refine seq_ ?_) | (apply cReg_; refine region_ ?_) | (apply cIf_; first | refine ifT_ rfl ?_ | refine ifF_ rfl ?_ | refine ifB_ rfl (by assumption) ?_ | refine ifC_ rfl (by assumption) ?_ | refine ifD_ rfl (fun h => ?_) (fun h => ?_) | refine ifE_ rfl (fun h => ?_) (fun h => ?_) | refine ifN_ rfl (fun h => ?_) (fun h => ?_) | refine if_ rfl (fun h => ?_) (fun h => ?_)) | (apply gBd_; refine w_bd (k := ?_)) | (apply gBs_; refine w_bs (k := fun _ => ?_)) | (apply gBx_; refine w_bx (k := fun _ => ?_)) | (apply gAl_; refine w_al (k := fun _ => ?_)) | (apply gCv_; first | refine w_cv (k := ?_) | refine w_cB (kk := ?_) | refine w_cB2 (kk := ?_)) | (apply gAs_; refine w_as (k := ?_)) | (apply gFa_; refine w_fa (k := ?_)) | (apply gBi_; refine w_bi (k := ?_)) | (apply gPi_; refine w_pi (k := ?_)) | (apply gNc_; refine w_nc (k := ?_)) | (apply gXt_; refine w_xt (k := ?_)) | (apply gCB_; first | refine w_cb (k := ?_) | refine w_ap1 (k' := fun _ _ _ => ?_)) | (apply gUn_; refine w_un (k := ?_)) | (apply gFl_; refine w_fl (k := ?_)) | (apply gSl_; first | refine w_sV (k := ?_) | refine w_sl (k := ?_)) | (apply gIx_; refine w_ix (k := ?_)) | (apply gIa_; refine w_iA (k := ?_)) | (apply gMf_; refine w_mf (k := ?_)) | (apply cSkip_; refine skip_ ?_) | (apply cBlock_; refine block_ ?_) | (apply cBlk_; refine blk_ ?_) | (apply cExit_; refine exit_ rfl ?_)))
    exact e_rets
  case true =>
    rw [hm] at hM
    obtain ⟨h1, _, _, _, _, _, _, h8, h9⟩ := c.may_all hm
    have e : c.bytes = c.raw := by unfold Ck.bytes; rw [hm]; rfl
    have hw : IntKind.u64.wrap c.made = c.made := by
      have := ok.made
      rw [wrap_u64]
      omega
    have hU := U64_c (IntKind.u64.wrap c.made) (by rw [hw]; exact h1) (by rw [hw]; have := ok.made; omega)
    rw [e]
    repeat' (first | (apply cRegD_; first | refine w_rD (id := 3) 21 (.cons 0 (.cons 4 (.cons 8 (.cons 12 (.cons 16 (.cons 1 (.cons 2 (.cons 5 (.cons 9 (.cons 13 (.cons 17 (.cons 3 (.cons 6 (.cons 7 (.cons 10 (.cons 11 (.cons 14 (.cons 15 (.cons 18 (.cons 19 (.cons 20 .nil))))))))))))))))))))) [blk _ (.cells c.l.toArray 94 (0, 0))] [] (h := ?_) | refine w_rD (id := 4) 22 (.cons 0 (.cons 1 (.cons 4 (.cons 8 (.cons 12 (.cons 16 (.cons 2 (.cons 5 (.cons 9 (.cons 13 (.cons 17 (.cons 3 (.cons 6 (.cons 7 (.cons 10 (.cons 11 (.cons 14 (.cons 15 (.cons 18 (.cons 19 (.cons 20 (.cons 21 .nil)))))))))))))))))))))) [blk _ (.cells c.l.toArray 94 (0, 0))] [] (h := ?_) | refine w_rD (id := 5) 24 (.cons 0 (.cons 1 (.cons 5 (.cons 9 (.cons 13 (.cons 17 (.cons 20 (.cons 2 (.cons 6 (.cons 10 (.cons 14 (.cons 18 (.cons 21 (.cons 3 (.cons 4 (.cons 7 (.cons 8 (.cons 11 (.cons 12 (.cons 15 (.cons 16 (.cons 19 (.cons 22 (.cons 23 .nil)))))))))))))))))))))))) [blk _ (.cells c.l.toArray 94 (0, 0))] [] (h := ?_)) | (apply gBi_; refine w_cat (k := ?_)) | (apply gCa_; first | refine w_cd (hM) (k := ?_) | refine w_cd (hU) (k := ?_) | refine w_cd (U32_c _) (k := ?_) | refine w_cd (U16_c _) (k := ?_)) | (first | (apply gMv_; refine w_mv (k := ?_)) | (apply gN_; first | refine nxt_ ?_ | refine rend_ ?_ | refine nxtD_ rfl ?_ | refine rendD_ (by kernel_rfl) ?_ | refine nxtT_ rfl ?_ | refine rendT_ (by kernel_rfl) ?_ | refine fk_ ?_ | refine nxtF_ (by kernel_rfl) rfl rfl ?_ ?_ | refine nxtF3_ (by kernel_rfl) rfl rfl rfl ?_ ?_ ?_) | (apply gLd_; first | refine w_ld (k := ?_) | refine w_lA (k := ?_) | refine w_lr (k := ?_) | refine w_lvc (k := ?_) | refine w_lvA (k := ?_) | refine w_l2 (k := ?_)) | (apply gG_; first | refine w_on (k := ?_) | refine w_of (k := ?_) | refine gcaseD_ rfl rfl rfl (fun h h' => ?_) (fun h h' => ?_) | refine gcaseE_ rfl rfl rfl (fun h h' => ?_) (fun h h' => ?_) | refine gcaseN_ rfl rfl rfl (fun h h' => ?_) (fun h h' => ?_) | refine gcase_ rfl rfl rfl (fun h => ?_) (fun h => ?_)) | (apply gSt_; first | refine w_st (k := ?_) | refine w_sA (k := ?_)) | (apply cSeq_; refine seq_ ?_) | (apply cReg_; refine region_ ?_) | (apply cIf_; first | refine ifT_ rfl ?_ | refine ifF_ rfl ?_ | refine ifB_ rfl (by assumption) ?_ | refine ifC_ rfl (by assumption) ?_ | refine ifD_ rfl (fun h => ?_) (fun h => ?_) | refine ifE_ rfl (fun h => ?_) (fun h => ?_) | refine ifN_ rfl (fun h => ?_) (fun h => ?_) | refine if_ rfl (fun h => ?_) (fun h => ?_)) | (apply gBd_; refine w_bd (k := ?_)) | (apply gBs_; refine w_bs (k := fun _ => ?_)) | (apply gBx_; refine w_bx (k := fun _ => ?_)) | (apply gAl_; refine w_al (k := fun _ => ?_)) | (apply gCv_; first | refine w_cv (k := ?_) | refine w_cB (kk := ?_) | refine w_cB2 (kk := ?_)) | (apply gAs_; refine w_as (k := ?_)) | (apply gFa_; refine w_fa (k := ?_)) | (apply gBi_; refine w_bi (k := ?_)) | (apply gPi_; refine w_pi (k := ?_)) | (apply gNc_; refine w_nc (k := ?_)) | (apply gXt_; refine w_xt (k := ?_)) | (apply gCB_; first | refine w_cb (k := ?_) | refine w_ap1 (k' := fun _ _ _ => ?_)) | (apply gUn_; refine w_un (k := ?_)) | (apply gFl_; refine w_fl (k := ?_)) | (apply gSl_; first | refine w_sV (k := ?_) | refine w_sl (k := ?_)) | (apply gIx_; refine w_ix (k := ?_)) | (apply gIa_; refine w_iA (k := ?_)) | (apply gMf_; refine w_mf (k := ?_)) | (apply cSkip_; refine skip_ ?_) | (apply cBlock_; refine block_ ?_) | (apply cBlk_; refine blk_ ?_) | (apply cExit_; refine exit_ rfl ?_)))
    rw [hw]
    refine e_ret [.tmp 2] (he := ?_)
    show Value.string _ = Value.string _
    congr 1
    unfold Ck.raw
    simp only [ByteArray.append_assoc]
theorem P4_c (x : Int) : Ctr Try.prog 15 [.int .u64 (IntKind.u64.wrap x), .int .i64 4] [] (fun v L => v = .string (be 4 x) ∧ L = []) := by
  have hP := Put_c 4 (by omega) (IntKind.u64.wrap x) (by rw [wrap_u64]; omega) (by rw [wrap_u64]; omega)
  rw [wrap_u64, be4_modL, ← wrap_u64] at hP
  exact hP
theorem P2_c (x : Int) : Ctr Try.prog 15 [.int .u64 (IntKind.u64.wrap x), .int .i64 2] [] (fun v L => v = .string (be 2 x) ∧ L = []) := by
  have hP := Put_c 2 (by omega) (IntKind.u64.wrap x) (by rw [wrap_u64]; omega) (by rw [wrap_u64]; omega)
  have e : be 2 (IntKind.u64.wrap x) = be 2 x := by
    rw [wrap_u64, be_two, be_two]
    have e1 : x % 18446744073709551616 / 256 % 256 = x / 256 % 256 := by omega
    have e2 : x % 18446744073709551616 % 256 = x % 256 := by omega
    rw [e1, e2]
  rw [e] at hP
  exact hP
theorem out5_six (p a b c d e f : Int) : be 8 p ++ out5 [a, b, c, d, e, f] = be 8 p ++ be 4 a ++ be 4 b ++ be 4 c ++ be 4 d ++ be 4 e ++ be 4 f := by
  have e0 : ∀ x : ByteArray, (⟨#[]⟩ : ByteArray) ++ x = x := fun x => by apply ByteArray.ext; simp
  have e1 : out5 [a, b, c, d, e, f] = (⟨#[]⟩ : ByteArray) ++ be 4 a ++ be 4 b ++ be 4 c ++ be 4 d ++ be 4 e ++ be 4 f := rfl
  rw [e1, e0]
  simp only [ByteArray.append_assoc]
attribute [local irreducible] out5
set_option maxRecDepth 20000 in
set_option maxHeartbeats 1000000 in
theorem refBytes_c (c : Ck) (ok : c.Ok) : Ctr Try.prog 55 [c.v] [] (fun v L => v = .string c.bytes ∧ L = []) := by
  have hM := refMay_c c
  refine ctr_ Try.func55 rfl Try.ntmps55 rfl fun E R => ?_
  cases hm : c.may
  case false =>
    rw [hm] at hM
    have e : c.bytes = ⟨#[]⟩ := by unfold Ck.bytes; rw [hm]; rfl
    rw [e]
    repeat' (first | (apply gCa_; first | refine w_cd (hM) (k := ?_)) | (first | (apply gMv_; refine w_mv (k := ?_)) | (apply gN_; first | refine nxt_ ?_ | refine rend_ ?_ | refine nxtD_ rfl ?_ | refine rendD_ (by kernel_rfl) ?_ | refine nxtT_ rfl ?_ | refine rendT_ (by kernel_rfl) ?_ | refine fk_ ?_ | refine nxtF_ (by kernel_rfl) rfl rfl ?_ ?_ | refine nxtF3_ (by kernel_rfl) rfl rfl rfl ?_ ?_ ?_) | (apply gLd_; first | refine w_ld (k := ?_) | refine w_lA (k := ?_) | refine w_lr (k := ?_) | refine w_lvc (k := ?_) | refine w_lvA (k := ?_) | refine w_l2 (k := ?_)) | (apply gG_; first | refine w_on (k := ?_) | refine w_of (k := ?_) | refine gcaseD_ rfl rfl rfl (fun h h' => ?_) (fun h h' => ?_) | refine gcaseE_ rfl rfl rfl (fun h h' => ?_) (fun h h' => ?_) | refine gcaseN_ rfl rfl rfl (fun h h' => ?_) (fun h h' => ?_) | refine gcase_ rfl rfl rfl (fun h => ?_) (fun h => ?_)) | (apply gSt_; first | refine w_st (k := ?_) | refine w_sA (k := ?_)) | (apply cSeq_; refine seq_ ?_) | (apply cReg_; refine region_ ?_) | (apply cIf_; first | refine ifT_ rfl ?_ | refine ifF_ rfl ?_ | refine ifB_ rfl (by assumption) ?_ | refine ifC_ rfl (by assumption) ?_ | refine ifD_ rfl (fun h => ?_) (fun h => ?_) | refine ifE_ rfl (fun h => ?_) (fun h => ?_) | refine ifN_ rfl (fun h => ?_) (fun h => ?_) | refine if_ rfl (fun h => ?_) (fun h => ?_)) | (apply gBd_; refine w_bd (k := ?_)) | (apply gBs_; refine w_bs (k := fun _ => ?_)) | (apply gBx_; refine w_bx (k := fun _ => ?_)) | (apply gAl_; refine w_al (k := fun _ => ?_)) | (apply gCv_; first | refine w_cv (k := ?_) | refine w_cB (kk := ?_) | refine w_cB2 (kk := ?_)) | (apply gAs_; refine w_as (k := ?_)) | (apply gFa_; refine w_fa (k := ?_)) | (apply gBi_; refine w_bi (k := ?_)) | (apply gPi_; refine w_pi (k := ?_)) | (apply gNc_; refine w_nc (k := ?_)) | (apply gXt_; refine w_xt (k := ?_)) | (apply gCB_; first | refine w_cb (k := ?_) | refine w_ap1 (k' := fun _ _ _ => ?_)) | (apply gUn_; refine w_un (k := ?_)) | (apply gFl_; refine w_fl (k := ?_)) | (apply gSl_; first | refine w_sV (k := ?_) | refine w_sl (k := ?_)) | (apply gIx_; refine w_ix (k := ?_)) | (apply gIa_; refine w_iA (k := ?_)) | (apply gMf_; refine w_mf (k := ?_)) | (apply cSkip_; refine skip_ ?_) | (apply cBlock_; refine block_ ?_) | (apply cBlk_; refine blk_ ?_) | (apply cExit_; refine exit_ rfl ?_)))
    exact e_rets
  case true =>
    rw [hm] at hM
    obtain ⟨h1, _, _, _, _, _, _, h8, h9⟩ := c.may_all hm
    have e : c.bytes = c.raw := by unfold Ck.bytes; rw [hm]; rfl
    have hw : IntKind.u64.wrap c.made = c.made := by
      have := ok.made
      rw [wrap_u64]
      omega
    have hU := Put_c 8 (by omega) (IntKind.u64.wrap c.made) (by rw [hw]; exact h1) (by rw [hw]; have := ok.made; omega)
    rw [e]
    let l6 : List Int := [c.mine, c.yours, c.myTsn, c.yourTsn, c.peer, c.loc]
    repeat' (first | (refine w_bsV rowU [c.mine, c.yours, c.myTsn, c.yourTsn, c.peer, c.loc] (k := fun _ => ?_)) | (apply gCa_; first | refine w_cd (hM) (k := ?_) | refine w_cd (hU) (k := ?_)) | (first | (apply gMv_; refine w_mv (k := ?_)) | (apply gN_; first | refine nxt_ ?_ | refine rend_ ?_ | refine nxtD_ rfl ?_ | refine rendD_ (by kernel_rfl) ?_ | refine nxtT_ rfl ?_ | refine rendT_ (by kernel_rfl) ?_ | refine fk_ ?_ | refine nxtF_ (by kernel_rfl) rfl rfl ?_ ?_ | refine nxtF3_ (by kernel_rfl) rfl rfl rfl ?_ ?_ ?_) | (apply gLd_; first | refine w_ld (k := ?_) | refine w_lA (k := ?_) | refine w_lr (k := ?_) | refine w_lvc (k := ?_) | refine w_lvA (k := ?_) | refine w_l2 (k := ?_)) | (apply gG_; first | refine w_on (k := ?_) | refine w_of (k := ?_) | refine gcaseD_ rfl rfl rfl (fun h h' => ?_) (fun h h' => ?_) | refine gcaseE_ rfl rfl rfl (fun h h' => ?_) (fun h h' => ?_) | refine gcaseN_ rfl rfl rfl (fun h h' => ?_) (fun h h' => ?_) | refine gcase_ rfl rfl rfl (fun h => ?_) (fun h => ?_)) | (apply gSt_; first | refine w_st (k := ?_) | refine w_sA (k := ?_)) | (apply cSeq_; refine seq_ ?_) | (apply cReg_; refine region_ ?_) | (apply cIf_; first | refine ifT_ rfl ?_ | refine ifF_ rfl ?_ | refine ifB_ rfl (by assumption) ?_ | refine ifC_ rfl (by assumption) ?_ | refine ifD_ rfl (fun h => ?_) (fun h => ?_) | refine ifE_ rfl (fun h => ?_) (fun h => ?_) | refine ifN_ rfl (fun h => ?_) (fun h => ?_) | refine if_ rfl (fun h => ?_) (fun h => ?_)) | (apply gBd_; refine w_bd (k := ?_)) | (apply gBs_; refine w_bs (k := fun _ => ?_)) | (apply gBx_; refine w_bx (k := fun _ => ?_)) | (apply gAl_; refine w_al (k := fun _ => ?_)) | (apply gCv_; first | refine w_cv (k := ?_) | refine w_cB (kk := ?_) | refine w_cB2 (kk := ?_)) | (apply gAs_; refine w_as (k := ?_)) | (apply gFa_; refine w_fa (k := ?_)) | (apply gBi_; refine w_bi (k := ?_)) | (apply gPi_; refine w_pi (k := ?_)) | (apply gNc_; refine w_nc (k := ?_)) | (apply gXt_; refine w_xt (k := ?_)) | (apply gCB_; first | refine w_cb (k := ?_) | refine w_ap1 (k' := fun _ _ _ => ?_)) | (apply gUn_; refine w_un (k := ?_)) | (apply gFl_; refine w_fl (k := ?_)) | (apply gSl_; first | refine w_sV (k := ?_) | refine w_sl (k := ?_)) | (apply gIx_; refine w_ix (k := ?_)) | (apply gIa_; refine w_iA (k := ?_)) | (apply gMf_; refine w_mf (k := ?_)) | (apply cSkip_; refine skip_ ?_) | (apply cBlock_; refine block_ ?_) | (apply cBlk_; refine blk_ ?_) | (apply cExit_; refine exit_ rfl ?_)))
    rename_i g1 g4
    generalize hl6 : [c.mine, c.yours, c.myTsn, c.yourTsn, c.peer, c.loc] = l6
    have hl : l6.length = 6 := by rw [← hl6]; rfl
    refine loop_ (M := [blk g1 (.cells c.l.toArray 94 (0, 0)), vec (some ⟨g4, 0, none⟩) 6 6 22 1 (rowsL rowU l6), R])
      (fun m env L => ∃ i : Nat, m = 6 - i ∧ i ≤ 6 ∧ env = [(1, ptr g1), (3, .string (be 8 (IntKind.u64.wrap c.made) ++ out5 (l6.take i))), (4, .slice (some ⟨g4, 0, none⟩) 6 6), (5, .int .i64 i)] ∧ L = [blk g1 (.cells c.l.toArray 94 (0, 0)), vec (some ⟨g4, 0, none⟩) 6 6 22 1 (rowsL rowU l6), R])
      6 [1, 3, 4, 5] rfl (by ((repeat (first | exact .nil | ((first | apply Sel.cons | apply Cut.cons); repeat (first | exact .head | apply Pl.tail)))); first | done | fail)) ⟨0, rfl, by omega, by
        have e0 : ∀ x : ByteArray, x ++ (⟨#[]⟩ : ByteArray) = x := fun x => by apply ByteArray.ext; simp
        rw [List.take_zero, out5_nil, e0]; rfl, rfl⟩ ?_
    rintro m env L ⟨i, hm', hi, rfl, rfl⟩
    have hos := out5_size (l6.take i)
    rw [List.length_take, hl] at hos
    by_cases hin : i < 6
    · have c1 : decide ((i : Int) < 6) = true := decide_eq_true (by omega)
      have hv : l6[(i : Int).toNat]? = some (l6.getD i 0) := by
        rw [Int.toNat_natCast, List.getD_eq_getElem?_getD, List.getElem?_eq_getElem (by omega)]
        rfl
      have e : be 8 (IntKind.u64.wrap c.made) ++ out5 (l6.take (i + 1)) = be 8 (IntKind.u64.wrap c.made) ++ out5 (l6.take i) ++ be 4 (l6.getD i 0) := by
        rw [out5_take l6 i (by omega), ByteArray.append_assoc]
      repeat' (first | (apply gBi_; refine w_cat (k := ?_)) | (apply gCa_; first | refine w_cd (P4_c _) (k := ?_)) | (first | (apply gMv_; refine w_mv (k := ?_)) | (apply gN_; first | refine nxt_ ?_ | refine rend_ ?_ | refine nxtD_ rfl ?_ | refine rendD_ (by kernel_rfl) ?_ | refine nxtT_ rfl ?_ | refine rendT_ (by kernel_rfl) ?_ | refine fk_ ?_ | refine nxtF_ (by kernel_rfl) rfl rfl ?_ ?_ | refine nxtF3_ (by kernel_rfl) rfl rfl rfl ?_ ?_ ?_) | (apply gLd_; first | refine w_ld (k := ?_) | refine w_lA (k := ?_) | refine w_lr (k := ?_) | refine w_lvc (k := ?_) | refine w_lvA (k := ?_) | refine w_l2 (k := ?_)) | (apply gG_; first | refine w_on (k := ?_) | refine w_of (k := ?_) | refine gcaseD_ rfl rfl rfl (fun h h' => ?_) (fun h h' => ?_) | refine gcaseE_ rfl rfl rfl (fun h h' => ?_) (fun h h' => ?_) | refine gcaseN_ rfl rfl rfl (fun h h' => ?_) (fun h h' => ?_) | refine gcase_ rfl rfl rfl (fun h => ?_) (fun h => ?_)) | (apply gSt_; first | refine w_st (k := ?_) | refine w_sA (k := ?_)) | (apply cSeq_; refine seq_ ?_) | (apply cReg_; refine region_ ?_) | (apply cIf_; first | refine ifT_ rfl ?_ | refine ifF_ rfl ?_ | refine ifB_ rfl (by assumption) ?_ | refine ifC_ rfl (by assumption) ?_ | refine ifD_ rfl (fun h => ?_) (fun h => ?_) | refine ifE_ rfl (fun h => ?_) (fun h => ?_) | refine ifN_ rfl (fun h => ?_) (fun h => ?_) | refine if_ rfl (fun h => ?_) (fun h => ?_)) | (apply gBd_; refine w_bd (k := ?_)) | (apply gBs_; refine w_bs (k := fun _ => ?_)) | (apply gBx_; refine w_bx (k := fun _ => ?_)) | (apply gAl_; refine w_al (k := fun _ => ?_)) | (apply gCv_; first | refine w_cv (k := ?_) | refine w_cB (kk := ?_) | refine w_cB2 (kk := ?_)) | (apply gAs_; refine w_as (k := ?_)) | (apply gFa_; refine w_fa (k := ?_)) | (apply gBi_; refine w_bi (k := ?_)) | (apply gPi_; refine w_pi (k := ?_)) | (apply gNc_; refine w_nc (k := ?_)) | (apply gXt_; refine w_xt (k := ?_)) | (apply gCB_; first | refine w_cb (k := ?_) | refine w_ap1 (k' := fun _ _ _ => ?_)) | (apply gUn_; refine w_un (k := ?_)) | (apply gFl_; refine w_fl (k := ?_)) | (apply gSl_; first | refine w_sV (k := ?_) | refine w_sl (k := ?_)) | (apply gIx_; refine w_ix (k := ?_)) | (apply gIa_; refine w_iA (k := ?_)) | (apply gMf_; refine w_mf (k := ?_)) | (apply cSkip_; refine skip_ ?_) | (apply cBlock_; refine block_ ?_) | (apply cBlk_; refine blk_ ?_) | (apply cExit_; refine exit_ rfl ?_)))
      rw [← e]
      exact e_stop _ [1, 3, 4, 5] ⟨6 - (i + 1), by omega, i + 1, rfl, by omega, rfl, rfl⟩
    · obtain rfl : i = 6 := by omega
      have c1 : decide (((6 : Nat) : Int) < 6) = false := by decide
      have e6 : be 8 (IntKind.u64.wrap c.made) ++ out5 (l6.take 6) = be 8 c.made ++ be 4 c.mine ++ be 4 c.yours ++ be 4 c.myTsn ++ be 4 c.yourTsn ++ be 4 c.peer ++ be 4 c.loc := by
        rw [hw, List.take_of_length_le (by omega), ← hl6]
        exact out5_six _ _ _ _ _ _ _
      rw [e6]
      repeat' (first | (apply cRegD_; first | refine w_rD (id := 9) 27 (.cons 0 (.cons 1 (.cons 5 (.cons 10 (.cons 15 (.cons 20 (.cons 2 (.cons 3 (.cons 6 (.cons 7 (.cons 11 (.cons 12 (.cons 16 (.cons 17 (.cons 21 (.cons 22 (.cons 4 (.cons 8 (.cons 9 (.cons 13 (.cons 14 (.cons 18 (.cons 19 (.cons 23 (.cons 24 (.cons 25 (.cons 26 .nil))))))))))))))))))))))))))) [blk _ (.cells c.l.toArray 94 (0, 0))] [] (h := ?_) | refine w_rD (id := 10) 18 (.cons 0 (.cons 1 (.cons 6 (.cons 11 (.cons 14 (.cons 2 (.cons 3 (.cons 7 (.cons 8 (.cons 12 (.cons 15 (.cons 4 (.cons 5 (.cons 9 (.cons 10 (.cons 13 (.cons 16 (.cons 17 .nil)))))))))))))))))) [blk _ (.cells c.l.toArray 94 (0, 0))] [] (h := ?_)) | (apply gBi_; refine w_cat (k := ?_)) | (apply gCa_; first | refine w_cd (P4_c _) (k := ?_) | refine w_cd (P2_c _) (k := ?_)) | (first | (apply gMv_; refine w_mv (k := ?_)) | (apply gN_; first | refine nxt_ ?_ | refine rend_ ?_ | refine nxtD_ rfl ?_ | refine rendD_ (by kernel_rfl) ?_ | refine nxtT_ rfl ?_ | refine rendT_ (by kernel_rfl) ?_ | refine fk_ ?_ | refine nxtF_ (by kernel_rfl) rfl rfl ?_ ?_ | refine nxtF3_ (by kernel_rfl) rfl rfl rfl ?_ ?_ ?_) | (apply gLd_; first | refine w_ld (k := ?_) | refine w_lA (k := ?_) | refine w_lr (k := ?_) | refine w_lvc (k := ?_) | refine w_lvA (k := ?_) | refine w_l2 (k := ?_)) | (apply gG_; first | refine w_on (k := ?_) | refine w_of (k := ?_) | refine gcaseD_ rfl rfl rfl (fun h h' => ?_) (fun h h' => ?_) | refine gcaseE_ rfl rfl rfl (fun h h' => ?_) (fun h h' => ?_) | refine gcaseN_ rfl rfl rfl (fun h h' => ?_) (fun h h' => ?_) | refine gcase_ rfl rfl rfl (fun h => ?_) (fun h => ?_)) | (apply gSt_; first | refine w_st (k := ?_) | refine w_sA (k := ?_)) | (apply cSeq_; refine seq_ ?_) | (apply cReg_; refine region_ ?_) | (apply cIf_; first | refine ifT_ rfl ?_ | refine ifF_ rfl ?_ | refine ifB_ rfl (by assumption) ?_ | refine ifC_ rfl (by assumption) ?_ | refine ifD_ rfl (fun h => ?_) (fun h => ?_) | refine ifE_ rfl (fun h => ?_) (fun h => ?_) | refine ifN_ rfl (fun h => ?_) (fun h => ?_) | refine if_ rfl (fun h => ?_) (fun h => ?_)) | (apply gBd_; refine w_bd (k := ?_)) | (apply gBs_; refine w_bs (k := fun _ => ?_)) | (apply gBx_; refine w_bx (k := fun _ => ?_)) | (apply gAl_; refine w_al (k := fun _ => ?_)) | (apply gCv_; first | refine w_cv (k := ?_) | refine w_cB (kk := ?_) | refine w_cB2 (kk := ?_)) | (apply gAs_; refine w_as (k := ?_)) | (apply gFa_; refine w_fa (k := ?_)) | (apply gBi_; refine w_bi (k := ?_)) | (apply gPi_; refine w_pi (k := ?_)) | (apply gNc_; refine w_nc (k := ?_)) | (apply gXt_; refine w_xt (k := ?_)) | (apply gCB_; first | refine w_cb (k := ?_) | refine w_ap1 (k' := fun _ _ _ => ?_)) | (apply gUn_; refine w_un (k := ?_)) | (apply gFl_; refine w_fl (k := ?_)) | (apply gSl_; first | refine w_sV (k := ?_) | refine w_sl (k := ?_)) | (apply gIx_; refine w_ix (k := ?_)) | (apply gIa_; refine w_iA (k := ?_)) | (apply gMf_; refine w_mf (k := ?_)) | (apply cSkip_; refine skip_ ?_) | (apply cBlock_; refine block_ ?_) | (apply cBlk_; refine blk_ ?_) | (apply cExit_; refine exit_ rfl ?_)))
      refine e_ret [.tmp 2] (he := ?_)
      show Value.string _ = Value.string _
      congr 1
      unfold Ck.raw
      simp only [ByteArray.append_assoc]
end Go.Proofs.Ytpghbkkjdfaflaa
