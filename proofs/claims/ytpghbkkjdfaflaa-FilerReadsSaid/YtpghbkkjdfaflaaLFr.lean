/- FilerReads: the law's walk. -/
import Derived.Test.YtpghbkkjdfaflaaLFn
namespace Go.Proofs.Ytpghbkkjdfaflaa
open Go.SL
attribute [local irreducible] Val ValS Does WN WB WK Sat Ctr Wn Tfin
set_option linter.unusedVariables false
set_option linter.unusedSimpArgs false
open Go.RowKit
attribute [local irreducible] be
instance tFlatObj : TFlat Try.prog 29 [.i, .s] := ⟨⟨[22, 9], by kernel_rfl, .cons (.cons .nil)⟩, by kernel_rfl, by kernel_rfl⟩
theorem ksEq_obj (a : Int) (b : ByteArray) : ksEq [.i, .s] [.int .u32 a, .string b] [.int .u32 a, .string b] = some true := by simp [ksEq, kEq]
section
variable (id n k : Int) (t : ByteArray)
/-- What a receiver that holds nothing makes of a piece. -/
theorem take0_c (i0 : 0 ≤ id) (i1 : id < 4294967296) (n0 : 0 ≤ n) (n1 : n < 4294967296) (k0 : 0 ≤ k) (k1 : k < 4294967296) (ht : t.size < 1000000000) (r : Nat) :
    Ctr Try.prog 17 [ptr r, .string (pieceB id n k t)] [rcv r none 0 0] (fun v L => ∃ q : Option Addr × Nat × Nat,
      v = .tuple #[if okP n k t ∧ n ≤ t.size then objV (id, t) else obj0, .bool (decide (okP n k t ∧ n ≤ t.size)), .int .i64 (if okP n k t then 0 else 3)] ∧ L = [rcv r q.1 q.2.1 q.2.2] ∧ (q.2.1 = 0 ∨ okP n k t)) := by
  have hp := parse_c id n k t i0 i1 n0 n1 k0 k1 (by omega)
  by_cases ho : okP n k t
  · rw [if_pos ho, decide_eq_true ho] at hp
    by_cases hw : n ≤ t.size
    · obtain ⟨h5, hk⟩ := okP_new n k t k0 ho hw
      refine ctr_post (ctr_rcv (TakeWhole_c r none 0 [] id n k t _ (by decide) (by simp) ht hw h5 hk hp)) ?_
      rintro v L ⟨p', c', rfl, rfl⟩
      exact ⟨_, ⟨(p', 0, c'), by rw [if_pos ⟨ho, hw⟩, decide_eq_true ⟨ho, hw⟩, if_pos ho], rfl, .inl rfl⟩, fun E R w hw => hw.sel (by ((repeat (first | exact .nil | ((first | apply Sel.cons | apply Cut.cons); repeat (first | exact .head | apply Pl.tail)))); first | done | fail))⟩
    · refine ctr_post (ctr_rcv (TakeNew_c r none 0 [] id n k t _ (by decide) (by simp) ht (by omega) hp)) ?_
      rintro v L ⟨g, p', c', rfl, rfl⟩
      have hn : ¬ (okP n k t ∧ n ≤ t.size) := fun h => hw h.2
      exact ⟨_, ⟨(p', 1, c'), by rw [if_neg hn, decide_eq_false hn, if_pos ho], rfl, .inr ho⟩, fun E R w hw => hw.sel (by ((repeat (first | exact .nil | ((first | apply Sel.cons | apply Cut.cons); repeat (first | exact .head | apply Pl.tail)))); first | done | fail))⟩
  · rw [if_neg ho, decide_eq_false ho] at hp
    have hn : ¬ (okP n k t ∧ n ≤ t.size) := fun h => ho h.1
    refine ctr_post (ctr_eqv (pre' := [rcv r none 0 0]) (F := [rcv r none 0 0]) (fun E w R hw => hw) (TakeBad_c (pieceB id n k t) _ ⟨0, 0, 0, emp, rfl⟩ hp (some ⟨r, 0, none⟩))) ?_
    rintro v L ⟨L1, ⟨rfl, rfl⟩, rfl⟩
    exact ⟨_, ⟨(none, 0, 0), by rw [if_neg hn, decide_eq_false hn, if_neg ho], rfl, .inl rfl⟩, fun E R w hw => hw⟩
end
theorem takeS_c (s : ByteArray) (h : s.size < 12) (r : Nat) : Ctr Try.prog 17 [ptr r, .string s] [] (fun v L => v = .tuple #[obj0, .bool false, .int .i64 3] ∧ L = []) :=
  TakeBad_c s _ ⟨0, 0, 0, emp, rfl⟩ (parseS_c s h) (some ⟨r, 0, none⟩)
set_option maxHeartbeats 2000000 in
theorem reads_c (s : ByteArray) (id a b : Int) (hs : s.size ≤ 9223372036854775807) (i0 : 0 ≤ id) (i1 : id < 4294967296) : Ctr Try.prog 3 [.string s, .int .u32 id, .agg #[.int .i64 a, .int .i64 b]] [] (fun v L => v = .bool true ∧ L = []) := by
  have hn := and_low a 1023 (by omega)
  have hk := and_low b 1023 (by omega)
  refine ctr_ Try.func3 rfl Try.ntmps3 rfl fun E R => ?_
  repeat' (first | (apply cRegD_; refine w_rD 8 (.cons 0 (.cons 3 (.cons 1 (.cons 2 (.cons 6 (.cons 4 (.cons 5 (.cons 7 .nil)))))))) [blk _ (.cells #[.int .i64 a, .int .i64 b] 23 (0, 0))] [] (h := ?_)) | (apply gCv_; refine w_cvn (k := ?_)) | (apply gBi_; first | refine w_bsE (k := ?_) | refine w_cat (k := ?_)) | (first | (apply gMv_; refine w_mv (k := ?_)) | (apply gN_; first | refine nxt_ ?_ | refine rend_ ?_ | refine nxtD_ rfl ?_ | refine rendD_ (by kernel_rfl) ?_ | refine nxtT_ rfl ?_ | refine rendT_ (by kernel_rfl) ?_ | refine fk_ ?_ | refine nxtF_ (by kernel_rfl) rfl rfl ?_ ?_ | refine nxtF3_ (by kernel_rfl) rfl rfl rfl ?_ ?_ ?_) | (apply gLd_; first | refine w_ld (k := ?_) | refine w_lA (k := ?_) | refine w_lr (k := ?_) | refine w_lvc (k := ?_) | refine w_lvA (k := ?_) | refine w_l2 (k := ?_)) | (apply gG_; first | refine w_on (k := ?_) | refine w_of (k := ?_) | refine gcaseD_ rfl rfl rfl (fun h h' => ?_) (fun h h' => ?_) | refine gcaseE_ rfl rfl rfl (fun h h' => ?_) (fun h h' => ?_) | refine gcaseN_ rfl rfl rfl (fun h h' => ?_) (fun h h' => ?_) | refine gcase_ rfl rfl rfl (fun h => ?_) (fun h => ?_)) | (apply gSt_; first | refine w_st (k := ?_) | refine w_sA (k := ?_)) | (apply cSeq_; refine seq_ ?_) | (apply cReg_; refine region_ ?_) | (apply cIf_; first | refine ifT_ rfl ?_ | refine ifF_ rfl ?_ | refine ifB_ rfl (by assumption) ?_ | refine ifC_ rfl (by assumption) ?_ | refine ifD_ rfl (fun h => ?_) (fun h => ?_) | refine ifE_ rfl (fun h => ?_) (fun h => ?_) | refine ifN_ rfl (fun h => ?_) (fun h => ?_) | refine if_ rfl (fun h => ?_) (fun h => ?_)) | (apply gBd_; refine w_bd (k := ?_)) | (apply gBs_; refine w_bs (k := fun _ => ?_)) | (apply gBx_; refine w_bx (k := fun _ => ?_)) | (apply gAl_; refine w_al (k := fun _ => ?_)) | (apply gCv_; first | refine w_cv (k := ?_) | refine w_cB (kk := ?_) | refine w_cB2 (kk := ?_)) | (apply gAs_; refine w_as (k := ?_)) | (apply gFa_; refine w_fa (k := ?_)) | (apply gBi_; refine w_bi (k := ?_)) | (apply gPi_; refine w_pi (k := ?_)) | (apply gNc_; refine w_nc (k := ?_)) | (apply gXt_; refine w_xt (k := ?_)) | (apply gCB_; first | refine w_cb (k := ?_) | refine w_ap1 (k' := fun _ _ _ => ?_)) | (apply gUn_; refine w_un (k := ?_)) | (apply gFl_; refine w_fl (k := ?_)) | (apply gSl_; first | refine w_sV (k := ?_) | refine w_sl (k := ?_)) | (apply gIx_; refine w_ix (k := ?_)) | (apply gIa_; refine w_iA (k := ?_)) | (apply gMf_; refine w_mf (k := ?_)) | (apply cSkip_; refine skip_ ?_) | (apply cBlock_; refine block_ ?_) | (apply cBlk_; refine blk_ ?_) | (apply cExit_; refine exit_ rfl ?_)))
  have e0 : ((1023 : Nat) : Int) = 1023 := rfl
  rw [e0] at hn hk
  generalize bits .and .i64 a 1023 = n at *
  generalize bits .and .i64 b 1023 = k at *
  have htz : ((s.extract (Int.toNat 0) (min (s.size : Int) 600).toNat).size : Int) ≤ 600 := by rw [ByteArray.size_extract]; omega
  generalize s.extract (Int.toNat 0) (min (s.size : Int) 600).toNat = t at *
  have hS : (t.extract (Int.toNat 0) (min (t.size : Int) 11).toNat).size < 12 := by rw [ByteArray.size_extract]; omega
  have hPi := Put_c 4 (by omega) id i0 (by omega)
  have hPn := Put_c 4 (by omega) n hn.1 (by omega)
  have hPk := Put_c 4 (by omega) k hk.1 (by omega)
  have hT0 := take0_c id n k t i0 i1 hn.1 (by omega) hk.1 (by omega) (by omega)
  have hassoc : pieceB id n k t = be 4 id ++ be 4 n ++ be 4 k ++ t := by unfold pieceB; rw [ByteArray.append_assoc, ByteArray.append_assoc]
  rw [hassoc] at hT0
  have hk5 : k.tmod 500 = k % 500 := Int.tmod_eq_emod_of_nonneg hk.1
  by_cases ho : okP n k t
  · have ho' := ho
    unfold okP at ho'
    rw [← hk5] at ho'
    have c1 : (k.tmod 500 == 0) = true := by simp [ho'.2.2.1]
    have c2 : decide (k ≤ n) = true := decide_eq_true ho'.2.1
    have c3 : ((t.size : Int) == min (n - k) 500) = true := by simpa using ho'.2.2.2.1
    by_cases hw : n ≤ t.size
    · have h5 : n ≤ 500 := (okP_new n k t hk.1 ho hw).1
      have c4 : decide (n ≤ 500) = true := decide_eq_true h5
      have d1 : (true == decide (n ≤ 500)) = true := by rw [c4]; rfl
      have hT : ∀ r, Ctr Try.prog 17 [ptr r, .string (be 4 id ++ be 4 n ++ be 4 k ++ t)] [rcv r none 0 0] (fun v L => ∃ q : Option Addr × Nat × Nat, v = .tuple #[.agg #[.int .u32 id, .string t], .bool true, .int .i64 0] ∧ L = [rcv r q.1 q.2.1 q.2.2]) := fun r => by
        refine ctr_post (hT0 r) ?_
        rintro v L ⟨q, rfl, rfl, _⟩
        rw [if_pos ⟨ho, hw⟩, decide_eq_true ⟨ho, hw⟩, if_pos ho]
        exact ⟨_, ⟨q, rfl, rfl⟩, fun E R w hw => hw⟩
      have hE := ksEq_obj id t
      repeat' (first | (apply gCv_; refine w_cvn (k := ?_)) | (apply gBi_; first | refine w_bsE (k := ?_) | refine w_cat (k := ?_)) | (apply gBi_; refine v_ (aEq rfl rfl hE) rfl (by kernel_rfl) ?_) | (apply gCa_; first | refine w_cd (hPi) (k := ?_) | refine w_cd (hPn) (k := ?_) | refine w_cd (hPk) (k := ?_) | refine w_cg (NewR_c) (k := fun _ => ?_) | refine w_cg (hT _) (k := fun _ => ?_) | refine w_cd (takeS_c _ hS _) (k := ?_) | refine w_cd (awake40_c) (k := ?_) | refine w_cd (RLen_c _ _ _ _) (k := ?_)) | (first | (apply gMv_; refine w_mv (k := ?_)) | (apply gN_; first | refine nxt_ ?_ | refine rend_ ?_ | refine nxtD_ rfl ?_ | refine rendD_ (by kernel_rfl) ?_ | refine nxtT_ rfl ?_ | refine rendT_ (by kernel_rfl) ?_ | refine fk_ ?_ | refine nxtF_ (by kernel_rfl) rfl rfl ?_ ?_ | refine nxtF3_ (by kernel_rfl) rfl rfl rfl ?_ ?_ ?_) | (apply gLd_; first | refine w_ld (k := ?_) | refine w_lA (k := ?_) | refine w_lr (k := ?_) | refine w_lvc (k := ?_) | refine w_lvA (k := ?_) | refine w_l2 (k := ?_)) | (apply gG_; first | refine w_on (k := ?_) | refine w_of (k := ?_) | refine gcaseD_ rfl rfl rfl (fun h h' => ?_) (fun h h' => ?_) | refine gcaseE_ rfl rfl rfl (fun h h' => ?_) (fun h h' => ?_) | refine gcaseN_ rfl rfl rfl (fun h h' => ?_) (fun h h' => ?_) | refine gcase_ rfl rfl rfl (fun h => ?_) (fun h => ?_)) | (apply gSt_; first | refine w_st (k := ?_) | refine w_sA (k := ?_)) | (apply cSeq_; refine seq_ ?_) | (apply cReg_; refine region_ ?_) | (apply cIf_; first | refine ifT_ rfl ?_ | refine ifF_ rfl ?_ | refine ifB_ rfl (by assumption) ?_ | refine ifC_ rfl (by assumption) ?_ | refine ifD_ rfl (fun h => ?_) (fun h => ?_) | refine ifE_ rfl (fun h => ?_) (fun h => ?_) | refine ifN_ rfl (fun h => ?_) (fun h => ?_) | refine if_ rfl (fun h => ?_) (fun h => ?_)) | (apply gBd_; refine w_bd (k := ?_)) | (apply gBs_; refine w_bs (k := fun _ => ?_)) | (apply gBx_; refine w_bx (k := fun _ => ?_)) | (apply gAl_; refine w_al (k := fun _ => ?_)) | (apply gCv_; first | refine w_cv (k := ?_) | refine w_cB (kk := ?_) | refine w_cB2 (kk := ?_)) | (apply gAs_; refine w_as (k := ?_)) | (apply gFa_; refine w_fa (k := ?_)) | (apply gBi_; refine w_bi (k := ?_)) | (apply gPi_; refine w_pi (k := ?_)) | (apply gNc_; refine w_nc (k := ?_)) | (apply gXt_; refine w_xt (k := ?_)) | (apply gCB_; first | refine w_cb (k := ?_) | refine w_ap1 (k' := fun _ _ _ => ?_)) | (apply gUn_; refine w_un (k := ?_)) | (apply gFl_; refine w_fl (k := ?_)) | (apply gSl_; first | refine w_sV (k := ?_) | refine w_sl (k := ?_)) | (apply gIx_; refine w_ix (k := ?_)) | (apply gIa_; refine w_iA (k := ?_)) | (apply gMf_; refine w_mf (k := ?_)) | (apply cSkip_; refine skip_ ?_) | (apply cBlock_; refine block_ ?_) | (apply cBlk_; refine blk_ ?_) | (apply cExit_; refine exit_ rfl ?_)))
      all_goals first
        | exact e_rets
        | (exfalso; omega)
    · have c4 : decide (n ≤ 500) = false := decide_eq_false (by omega)
      have d1 : (false == decide (n ≤ 500)) = true := by rw [c4]; rfl
      have hT : ∀ r, Ctr Try.prog 17 [ptr r, .string (be 4 id ++ be 4 n ++ be 4 k ++ t)] [rcv r none 0 0] (fun v L => ∃ q : Option Addr × Nat × Nat, v = .tuple #[obj0, .bool false, .int .i64 0] ∧ L = [rcv r q.1 q.2.1 q.2.2]) := fun r => by
        refine ctr_post (hT0 r) ?_
        rintro v L ⟨q, rfl, rfl, _⟩
        have hnn : ¬ (okP n k t ∧ n ≤ t.size) := fun h => hw h.2
        rw [if_neg hnn, decide_eq_false hnn, if_pos ho]
        exact ⟨_, ⟨q, rfl, rfl⟩, fun E R w hw => hw⟩
      repeat' (first | (apply gCv_; refine w_cvn (k := ?_)) | (apply gBi_; first | refine w_bsE (k := ?_) | refine w_cat (k := ?_)) | (apply gCa_; first | refine w_cd (hPi) (k := ?_) | refine w_cd (hPn) (k := ?_) | refine w_cd (hPk) (k := ?_) | refine w_cg (NewR_c) (k := fun _ => ?_) | refine w_cg (hT _) (k := fun _ => ?_) | refine w_cd (takeS_c _ hS _) (k := ?_) | refine w_cd (awake40_c) (k := ?_) | refine w_cd (RLen_c _ _ _ _) (k := ?_)) | (first | (apply gMv_; refine w_mv (k := ?_)) | (apply gN_; first | refine nxt_ ?_ | refine rend_ ?_ | refine nxtD_ rfl ?_ | refine rendD_ (by kernel_rfl) ?_ | refine nxtT_ rfl ?_ | refine rendT_ (by kernel_rfl) ?_ | refine fk_ ?_ | refine nxtF_ (by kernel_rfl) rfl rfl ?_ ?_ | refine nxtF3_ (by kernel_rfl) rfl rfl rfl ?_ ?_ ?_) | (apply gLd_; first | refine w_ld (k := ?_) | refine w_lA (k := ?_) | refine w_lr (k := ?_) | refine w_lvc (k := ?_) | refine w_lvA (k := ?_) | refine w_l2 (k := ?_)) | (apply gG_; first | refine w_on (k := ?_) | refine w_of (k := ?_) | refine gcaseD_ rfl rfl rfl (fun h h' => ?_) (fun h h' => ?_) | refine gcaseE_ rfl rfl rfl (fun h h' => ?_) (fun h h' => ?_) | refine gcaseN_ rfl rfl rfl (fun h h' => ?_) (fun h h' => ?_) | refine gcase_ rfl rfl rfl (fun h => ?_) (fun h => ?_)) | (apply gSt_; first | refine w_st (k := ?_) | refine w_sA (k := ?_)) | (apply cSeq_; refine seq_ ?_) | (apply cReg_; refine region_ ?_) | (apply cIf_; first | refine ifT_ rfl ?_ | refine ifF_ rfl ?_ | refine ifB_ rfl (by assumption) ?_ | refine ifC_ rfl (by assumption) ?_ | refine ifD_ rfl (fun h => ?_) (fun h => ?_) | refine ifE_ rfl (fun h => ?_) (fun h => ?_) | refine ifN_ rfl (fun h => ?_) (fun h => ?_) | refine if_ rfl (fun h => ?_) (fun h => ?_)) | (apply gBd_; refine w_bd (k := ?_)) | (apply gBs_; refine w_bs (k := fun _ => ?_)) | (apply gBx_; refine w_bx (k := fun _ => ?_)) | (apply gAl_; refine w_al (k := fun _ => ?_)) | (apply gCv_; first | refine w_cv (k := ?_) | refine w_cB (kk := ?_) | refine w_cB2 (kk := ?_)) | (apply gAs_; refine w_as (k := ?_)) | (apply gFa_; refine w_fa (k := ?_)) | (apply gBi_; refine w_bi (k := ?_)) | (apply gPi_; refine w_pi (k := ?_)) | (apply gNc_; refine w_nc (k := ?_)) | (apply gXt_; refine w_xt (k := ?_)) | (apply gCB_; first | refine w_cb (k := ?_) | refine w_ap1 (k' := fun _ _ _ => ?_)) | (apply gUn_; refine w_un (k := ?_)) | (apply gFl_; refine w_fl (k := ?_)) | (apply gSl_; first | refine w_sV (k := ?_) | refine w_sl (k := ?_)) | (apply gIx_; refine w_ix (k := ?_)) | (apply gIa_; refine w_iA (k := ?_)) | (apply gMf_; refine w_mf (k := ?_)) | (apply cSkip_; refine skip_ ?_) | (apply cBlock_; refine block_ ?_) | (apply cBlk_; refine blk_ ?_) | (apply cExit_; refine exit_ rfl ?_)))
      all_goals first
        | exact e_rets
        | (exfalso; omega)
  · have ho' := ho
    unfold okP at ho'
    rw [← hk5] at ho'
    have hT : ∀ r, Ctr Try.prog 17 [ptr r, .string (be 4 id ++ be 4 n ++ be 4 k ++ t)] [rcv r none 0 0] (fun v L => ∃ q : Option Addr × Nat, v = .tuple #[obj0, .bool false, .int .i64 3] ∧ L = [rcv r q.1 0 q.2]) := fun r => by
      refine ctr_post (hT0 r) ?_
      rintro v L ⟨q, rfl, rfl, hq⟩
      have hnn : ¬ (okP n k t ∧ n ≤ t.size) := fun h => ho h.1
      have h0 : q.2.1 = 0 := hq.resolve_right ho
      rw [if_neg hnn, decide_eq_false hnn, if_neg ho, h0]
      exact ⟨_, ⟨(q.1, q.2.2), rfl, rfl⟩, fun E R w hw => hw⟩
    repeat' (first | (apply gCv_; refine w_cvn (k := ?_)) | (apply gBi_; first | refine w_bsE (k := ?_) | refine w_cat (k := ?_)) | (apply gCa_; first | refine w_cd (hPi) (k := ?_) | refine w_cd (hPn) (k := ?_) | refine w_cd (hPk) (k := ?_) | refine w_cg (NewR_c) (k := fun _ => ?_) | refine w_cg (hT _) (k := fun _ => ?_) | refine w_cd (takeS_c _ hS _) (k := ?_) | refine w_cd (awake40_c) (k := ?_) | refine w_cd (RLen_c _ _ _ _) (k := ?_)) | (first | (apply gMv_; refine w_mv (k := ?_)) | (apply gN_; first | refine nxt_ ?_ | refine rend_ ?_ | refine nxtD_ rfl ?_ | refine rendD_ (by kernel_rfl) ?_ | refine nxtT_ rfl ?_ | refine rendT_ (by kernel_rfl) ?_ | refine fk_ ?_ | refine nxtF_ (by kernel_rfl) rfl rfl ?_ ?_ | refine nxtF3_ (by kernel_rfl) rfl rfl rfl ?_ ?_ ?_) | (apply gLd_; first | refine w_ld (k := ?_) | refine w_lA (k := ?_) | refine w_lr (k := ?_) | refine w_lvc (k := ?_) | refine w_lvA (k := ?_) | refine w_l2 (k := ?_)) | (apply gG_; first | refine w_on (k := ?_) | refine w_of (k := ?_) | refine gcaseD_ rfl rfl rfl (fun h h' => ?_) (fun h h' => ?_) | refine gcaseE_ rfl rfl rfl (fun h h' => ?_) (fun h h' => ?_) | refine gcaseN_ rfl rfl rfl (fun h h' => ?_) (fun h h' => ?_) | refine gcase_ rfl rfl rfl (fun h => ?_) (fun h => ?_)) | (apply gSt_; first | refine w_st (k := ?_) | refine w_sA (k := ?_)) | (apply cSeq_; refine seq_ ?_) | (apply cReg_; refine region_ ?_) | (apply cIf_; first | refine ifT_ rfl ?_ | refine ifF_ rfl ?_ | refine ifB_ rfl (by assumption) ?_ | refine ifC_ rfl (by assumption) ?_ | refine ifD_ rfl (fun h => ?_) (fun h => ?_) | refine ifE_ rfl (fun h => ?_) (fun h => ?_) | refine ifN_ rfl (fun h => ?_) (fun h => ?_) | refine if_ rfl (fun h => ?_) (fun h => ?_)) | (apply gBd_; refine w_bd (k := ?_)) | (apply gBs_; refine w_bs (k := fun _ => ?_)) | (apply gBx_; refine w_bx (k := fun _ => ?_)) | (apply gAl_; refine w_al (k := fun _ => ?_)) | (apply gCv_; first | refine w_cv (k := ?_) | refine w_cB (kk := ?_) | refine w_cB2 (kk := ?_)) | (apply gAs_; refine w_as (k := ?_)) | (apply gFa_; refine w_fa (k := ?_)) | (apply gBi_; refine w_bi (k := ?_)) | (apply gPi_; refine w_pi (k := ?_)) | (apply gNc_; refine w_nc (k := ?_)) | (apply gXt_; refine w_xt (k := ?_)) | (apply gCB_; first | refine w_cb (k := ?_) | refine w_ap1 (k' := fun _ _ _ => ?_)) | (apply gUn_; refine w_un (k := ?_)) | (apply gFl_; refine w_fl (k := ?_)) | (apply gSl_; first | refine w_sV (k := ?_) | refine w_sl (k := ?_)) | (apply gIx_; refine w_ix (k := ?_)) | (apply gIa_; refine w_iA (k := ?_)) | (apply gMf_; refine w_mf (k := ?_)) | (apply cSkip_; refine skip_ ?_) | (apply cBlock_; refine block_ ?_) | (apply cBlk_; refine blk_ ?_) | (apply cExit_; refine exit_ rfl ?_)))
    all_goals first
      | exact e_rets
      | (exfalso; omega)
end Go.Proofs.Ytpghbkkjdfaflaa
