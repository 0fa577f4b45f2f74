/- crosswayref08.block: the state behind a block. -/
import Derived.Test.YtpghbkkjdfaflaaAdd
import Derived.Test.YtpghbkkjdfaflaaRf
set_option linter.unusedVariables false
set_option linter.unusedSimpArgs false
namespace Go.Proofs.Ytpghbkkjdfaflaa
open Go.SL
attribute [local irreducible] Val ValS Does WN WB WK Sat Ctr Wn Tfin
set_option linter.unusedVariables false
set_option linter.unusedSimpArgs false
open Go.RowKit
attribute [local irreducible] be
attribute [local irreducible] rotl wAt rnd5 mixF mixK
theorem wRng (s : ByteArray) (i : Nat) (h : 4 * i + 4 ≤ s.size) : 0 ≤ wNum s i ∧ wNum s i < 4294967296 := by
  unfold wNum
  have := beN_bound (s.extract (4 * i) (4 * i + 4)) 4 (by rw [ByteArray.size_extract]; omega)
  exact ⟨beN_nonneg _, by omega⟩
theorem rdAll4 (a : ByteArray) (h : a.size = 4) : rdTake a 0 4 = (a, a.extract 4 a.size, 0) := by
  unfold rdTake
  rw [if_neg (by simp), if_neg (by omega), if_neg (by omega)]
  have e : a.extract 0 (4 : Int).toNat = a := by
    rw [show (4 : Int).toNat = a.size by rw [h]; rfl]
    apply ByteArray.ext
    simp
  rw [e]
  rfl
set_option maxRecDepth 20000 in
set_option maxHeartbeats 4000000 in
theorem block_c (h : St5) (s : ByteArray) (hs : s.size = 64) : Ctr Try.prog 127 [stV h, .string s] [] (fun v L => v = stV (block5 h s) ∧ L = []) := by
  refine ctr_ Try.func127 rfl Try.ntmps127 rfl fun E R => ?_
  repeat' (first | (apply gBx_; refine w_bxV (xs := h.l) rowU (fun _ => rfl) (h1 := rowU1 _) (k := fun _ => ?_)) | (apply gAl_; refine w_alV rowU 0 (k := fun _ => ?_)) | (refine w_mk rowU 0 (k' := fun _ => ?_)) | (first | (apply gMv_; refine w_mv (k := ?_)) | (apply gN_; first | refine nxt_ ?_ | refine rend_ ?_ | refine nxtD_ rfl ?_ | refine rendD_ (by kernel_rfl) ?_ | refine nxtT_ rfl ?_ | refine rendT_ (by kernel_rfl) ?_ | refine fk_ ?_ | refine nxtF_ (by kernel_rfl) rfl rfl ?_ ?_ | refine nxtF3_ (by kernel_rfl) rfl rfl rfl ?_ ?_ ?_) | (apply gLd_; first | refine w_ld (k := ?_) | refine w_lA (k := ?_) | refine w_lr (k := ?_) | refine w_lvc (k := ?_) | refine w_lvA (k := ?_) | refine w_l2 (k := ?_)) | (apply gG_; first | refine w_on (k := ?_) | refine w_of (k := ?_) | refine gcaseD_ rfl rfl rfl (fun h h' => ?_) (fun h h' => ?_) | refine gcaseE_ rfl rfl rfl (fun h h' => ?_) (fun h h' => ?_) | refine gcaseN_ rfl rfl rfl (fun h h' => ?_) (fun h h' => ?_) | refine gcase_ rfl rfl rfl (fun h => ?_) (fun h => ?_)) | (apply gSt_; first | refine w_st (k := ?_) | refine w_sA (k := ?_)) | (apply cSeq_; refine seq_ ?_) | (apply cReg_; refine region_ ?_) | (apply cIf_; first | refine ifT_ rfl ?_ | refine ifF_ rfl ?_ | refine ifB_ rfl (by assumption) ?_ | refine ifC_ rfl (by assumption) ?_ | refine ifD_ rfl (fun h => ?_) (fun h => ?_) | refine ifE_ rfl (fun h => ?_) (fun h => ?_) | refine ifN_ rfl (fun h => ?_) (fun h => ?_) | refine if_ rfl (fun h => ?_) (fun h => ?_)) | (apply gBd_; refine w_bd (k := ?_)) | (apply gBs_; refine w_bs (k := fun _ => ?_)) | (apply gBx_; refine w_bx (k := fun _ => ?_)) | (apply gAl_; refine w_al (k := fun _ => ?_)) | (apply gCv_; first | refine w_cv (k := ?_) | refine w_cB (kk := ?_) | refine w_cB2 (kk := ?_)) | (apply gAs_; refine w_as (k := ?_)) | (apply gFa_; refine w_fa (k := ?_)) | (apply gBi_; refine w_bi (k := ?_)) | (apply gPi_; refine w_pi (k := ?_)) | (apply gNc_; refine w_nc (k := ?_)) | (apply gXt_; refine w_xt (k := ?_)) | (apply gCB_; first | refine w_cb (k := ?_) | refine w_ap1 (k' := fun _ _ _ => ?_)) | (apply gUn_; refine w_un (k := ?_)) | (apply gFl_; refine w_fl (k := ?_)) | (apply gSl_; first | refine w_sV (k := ?_) | refine w_sl (k := ?_)) | (apply gIx_; refine w_ix (k := ?_)) | (apply gIa_; refine w_iA (k := ?_)) | (apply gMf_; refine w_mf (k := ?_)) | (apply cSkip_; refine skip_ ?_) | (apply cBlock_; refine block_ ?_) | (apply cBlk_; refine blk_ ?_) | (apply cExit_; refine exit_ rfl ?_)))
  rename_i g2 g4 g5
  refine loop_ (M := [vec (some ⟨g2, 0, none⟩) 5 5 191 1 (rowsL rowU h.l), vec (some ⟨g4, 0, none⟩) 5 5 191 1 (rowsL rowU (List.replicate 5 0)), vec (some ⟨g5, 0, none⟩) 80 80 22 1 (rowsL rowU (wAt s 0)), R])
    (fun m env L => ∃ i : Nat, m = 80 - i ∧ i ≤ 80 ∧ env = [(1, .string s), (2, ptr g2), (4, ptr g4), (5, .slice (some ⟨g5, 0, none⟩) 80 80), (6, .int .i64 i)] ∧
      L = [vec (some ⟨g2, 0, none⟩) 5 5 191 1 (rowsL rowU h.l), vec (some ⟨g4, 0, none⟩) 5 5 191 1 (rowsL rowU (List.replicate 5 0)), vec (some ⟨g5, 0, none⟩) 80 80 22 1 (rowsL rowU (wAt s i)), R])
    80 [1, 2, 4, 5, 6] rfl (by rw [wAt]; ((repeat (first | exact .nil | ((first | apply Sel.cons | apply Cut.cons); repeat (first | exact .head | apply Pl.tail)))); first | done | fail)) ⟨0, rfl, by omega, rfl, rfl⟩ ?_
  rintro m env L ⟨i, hm, hi, rfl, rfl⟩
  have hl := wAt_len s i
  by_cases hin : i < 80
  · have c1 : decide ((i : Int) < 80) = true := decide_eq_true (by omega)
    obtain ⟨b, hb⟩ : ∃ b, (wAt s i)[(i : Int).toNat]? = some b := ⟨(wAt s i)[i]'(by omega), by rw [Int.toNat_natCast]; exact List.getElem?_eq_getElem (by omega)⟩
    by_cases h16 : i < 16
    · have c2 : decide ((i : Int) < 16) = true := decide_eq_true (by omega)
      have hU := rfNum_c (s.extract (4 * i) (4 * i + 4)) 0 4 (by omega) (by omega)
      have hz : (s.extract (4 * i) (4 * i + 4)).size = 4 := by rw [ByteArray.size_extract]; omega
      have hw := wRng s i (by omega)
      have hww : IntKind.u32.wrap (beN (s.extract (4 * i) (4 * i + 4))) = wNum s i := by
        unfold wNum at hw ⊢
        rw [wrap_u32]
        omega
      have hrest : ∃ a b, rfRest (s.extract (4 * i) (4 * i + 4)) 0 4 = rfV a b := by unfold rfRest; split <;> exact ⟨_, _, rfl⟩
      obtain ⟨ra, rb, hrest⟩ := hrest
      rw [rdAll4 _ hz, hrest] at hU
      simp only at hU
      have m1 : IntKind.i64.wrap (4 * (i : Int)) = ((4 * i : Nat) : Int) := by
        rw [wrap_i64 _ (by omega) (by omega)]
        omega
      have m2 : IntKind.i64.wrap (((4 * i : Nat) : Int) + 4) = ((4 * i + 4 : Nat) : Int) := by
        rw [wrap_i64 _ (by omega) (by omega)]
        omega
      repeat' (first | (apply gSt_; refine w_svc (row := rowU) (IntKind.u32.wrap (beN (s.extract (4 * i) (4 * i + 4)))) (fun _ => rfl) hb (k := ?_)) | (apply gCa_; first | refine w_cd (hU) (k := ?_)) | (first | (apply gMv_; refine w_mv (k := ?_)) | (apply gN_; first | refine nxt_ ?_ | refine rend_ ?_ | refine nxtD_ rfl ?_ | refine rendD_ (by kernel_rfl) ?_ | refine nxtT_ rfl ?_ | refine rendT_ (by kernel_rfl) ?_ | refine fk_ ?_ | refine nxtF_ (by kernel_rfl) rfl rfl ?_ ?_ | refine nxtF3_ (by kernel_rfl) rfl rfl rfl ?_ ?_ ?_) | (apply gLd_; first | refine w_ld (k := ?_) | refine w_lA (k := ?_) | refine w_lr (k := ?_) | refine w_lvc (k := ?_) | refine w_lvA (k := ?_) | refine w_l2 (k := ?_)) | (apply gG_; first | refine w_on (k := ?_) | refine w_of (k := ?_) | refine gcaseD_ rfl rfl rfl (fun h h' => ?_) (fun h h' => ?_) | refine gcaseE_ rfl rfl rfl (fun h h' => ?_) (fun h h' => ?_) | refine gcaseN_ rfl rfl rfl (fun h h' => ?_) (fun h h' => ?_) | refine gcase_ rfl rfl rfl (fun h => ?_) (fun h => ?_)) | (apply gSt_; first | refine w_st (k := ?_) | refine w_sA (k := ?_)) | (apply cSeq_; refine seq_ ?_) | (apply cReg_; refine region_ ?_) | (apply cIf_; first | refine ifT_ rfl ?_ | refine ifF_ rfl ?_ | refine ifB_ rfl (by assumption) ?_ | refine ifC_ rfl (by assumption) ?_ | refine ifD_ rfl (fun h => ?_) (fun h => ?_) | refine ifE_ rfl (fun h => ?_) (fun h => ?_) | refine ifN_ rfl (fun h => ?_) (fun h => ?_) | refine if_ rfl (fun h => ?_) (fun h => ?_)) | (apply gBd_; refine w_bd (k := ?_)) | (apply gBs_; refine w_bs (k := fun _ => ?_)) | (apply gBx_; refine w_bx (k := fun _ => ?_)) | (apply gAl_; refine w_al (k := fun _ => ?_)) | (apply gCv_; first | refine w_cv (k := ?_) | refine w_cB (kk := ?_) | refine w_cB2 (kk := ?_)) | (apply gAs_; refine w_as (k := ?_)) | (apply gFa_; refine w_fa (k := ?_)) | (apply gBi_; refine w_bi (k := ?_)) | (apply gPi_; refine w_pi (k := ?_)) | (apply gNc_; refine w_nc (k := ?_)) | (apply gXt_; refine w_xt (k := ?_)) | (apply gCB_; first | refine w_cb (k := ?_) | refine w_ap1 (k' := fun _ _ _ => ?_)) | (apply gUn_; refine w_un (k := ?_)) | (apply gFl_; refine w_fl (k := ?_)) | (apply gSl_; first | refine w_sV (k := ?_) | refine w_sl (k := ?_)) | (apply gIx_; refine w_ix (k := ?_)) | (apply gIa_; refine w_iA (k := ?_)) | (apply gMf_; refine w_mf (k := ?_)) | (apply cSkip_; refine skip_ ?_) | (apply cBlock_; refine block_ ?_) | (apply cBlk_; refine blk_ ?_) | (apply cExit_; refine exit_ rfl ?_)))
      have e : (wAt s i).set (i : Int).toNat (IntKind.u32.wrap (beN (s.extract (4 * i) (4 * i + 4)))) = wAt s (i + 1) := by
        rw [hww]
        conv => rhs; unfold wAt
        unfold wVal
        rw [if_pos h16]
        rfl
      rw [e]
      exact e_stop _ [1, 2, 4, 5, 6] ⟨80 - (i + 1), by omega, i + 1, rfl, by omega, rfl, rfl⟩
    · have c2 : decide ((i : Int) < 16) = false := decide_eq_false (by omega)
      have hg : ∀ k : Nat, k ≤ i → k ≠ 0 → (wAt s i)[((i : Int) - (k : Int)).toNat]? = some ((wAt s i).getD (i - k) 0) := fun k h1 h2 => by
        have e : ((i : Int) - (k : Int)).toNat = i - k := by omega
        rw [e, List.getD_eq_getElem?_getD, List.getElem?_eq_getElem (by omega)]
        rfl
      have g3' : (wAt s i)[((i : Int) - 3).toNat]? = some ((wAt s i).getD (i - 3) 0) := hg 3 (by omega) (by omega)
      have g8' : (wAt s i)[((i : Int) - 8).toNat]? = some ((wAt s i).getD (i - 8) 0) := hg 8 (by omega) (by omega)
      have g14' : (wAt s i)[((i : Int) - 14).toNat]? = some ((wAt s i).getD (i - 14) 0) := hg 14 (by omega) (by omega)
      have g16' : (wAt s i)[((i : Int) - 16).toNat]? = some ((wAt s i).getD (i - 16) 0) := hg 16 (by omega) (by omega)
      repeat' (first | (apply cRegD_; refine w_rD (id := 8) 28 (.cons 0 (.cons 1 (.cons 2 (.cons 3 (.cons 4 (.cons 5 (.cons 7 (.cons 8 (.cons 9 (.cons 10 (.cons 13 (.cons 14 (.cons 15 (.cons 16 (.cons 19 (.cons 20 (.cons 21 (.cons 22 (.cons 6 (.cons 11 (.cons 12 (.cons 17 (.cons 18 (.cons 23 (.cons 24 (.cons 25 (.cons 26 (.cons 27 .nil)))))))))))))))))))))))))))) [vec (some ⟨g5, 0, none⟩) 80 80 22 1 (rowsL rowU (wAt s i))] [27] (h := ?_)) | (apply gSt_; refine w_svc (row := rowU) (wMix (wAt s i) i) (fun _ => rfl) hb (k := ?_)) | (apply gCa_; first | refine w_cd (turn1_c _) (k := ?_)) | (first | (apply gMv_; refine w_mv (k := ?_)) | (apply gN_; first | refine nxt_ ?_ | refine rend_ ?_ | refine nxtD_ rfl ?_ | refine rendD_ (by kernel_rfl) ?_ | refine nxtT_ rfl ?_ | refine rendT_ (by kernel_rfl) ?_ | refine fk_ ?_ | refine nxtF_ (by kernel_rfl) rfl rfl ?_ ?_ | refine nxtF3_ (by kernel_rfl) rfl rfl rfl ?_ ?_ ?_) | (apply gLd_; first | refine w_ld (k := ?_) | refine w_lA (k := ?_) | refine w_lr (k := ?_) | refine w_lvc (k := ?_) | refine w_lvA (k := ?_) | refine w_l2 (k := ?_)) | (apply gG_; first | refine w_on (k := ?_) | refine w_of (k := ?_) | refine gcaseD_ rfl rfl rfl (fun h h' => ?_) (fun h h' => ?_) | refine gcaseE_ rfl rfl rfl (fun h h' => ?_) (fun h h' => ?_) | refine gcaseN_ rfl rfl rfl (fun h h' => ?_) (fun h h' => ?_) | refine gcase_ rfl rfl rfl (fun h => ?_) (fun h => ?_)) | (apply gSt_; first | refine w_st (k := ?_) | refine w_sA (k := ?_)) | (apply cSeq_; refine seq_ ?_) | (apply cReg_; refine region_ ?_) | (apply cIf_; first | refine ifT_ rfl ?_ | refine ifF_ rfl ?_ | refine ifB_ rfl (by assumption) ?_ | refine ifC_ rfl (by assumption) ?_ | refine ifD_ rfl (fun h => ?_) (fun h => ?_) | refine ifE_ rfl (fun h => ?_) (fun h => ?_) | refine ifN_ rfl (fun h => ?_) (fun h => ?_) | refine if_ rfl (fun h => ?_) (fun h => ?_)) | (apply gBd_; refine w_bd (k := ?_)) | (apply gBs_; refine w_bs (k := fun _ => ?_)) | (apply gBx_; refine w_bx (k := fun _ => ?_)) | (apply gAl_; refine w_al (k := fun _ => ?_)) | (apply gCv_; first | refine w_cv (k := ?_) | refine w_cB (kk := ?_) | refine w_cB2 (kk := ?_)) | (apply gAs_; refine w_as (k := ?_)) | (apply gFa_; refine w_fa (k := ?_)) | (apply gBi_; refine w_bi (k := ?_)) | (apply gPi_; refine w_pi (k := ?_)) | (apply gNc_; refine w_nc (k := ?_)) | (apply gXt_; refine w_xt (k := ?_)) | (apply gCB_; first | refine w_cb (k := ?_) | refine w_ap1 (k' := fun _ _ _ => ?_)) | (apply gUn_; refine w_un (k := ?_)) | (apply gFl_; refine w_fl (k := ?_)) | (apply gSl_; first | refine w_sV (k := ?_) | refine w_sl (k := ?_)) | (apply gIx_; refine w_ix (k := ?_)) | (apply gIa_; refine w_iA (k := ?_)) | (apply gMf_; refine w_mf (k := ?_)) | (apply cSkip_; refine skip_ ?_) | (apply cBlock_; refine block_ ?_) | (apply cBlk_; refine blk_ ?_) | (apply cExit_; refine exit_ rfl ?_)))
      have e : (wAt s i).set (i : Int).toNat (wMix (wAt s i) i) = wAt s (i + 1) := by
        conv => rhs; unfold wAt
        unfold wVal
        rw [if_neg (by omega)]
        rfl
      rw [e]
      exact e_stop _ [1, 2, 4, 5, 6] ⟨80 - (i + 1), by omega, i + 1, rfl, by omega, rfl, rfl⟩
  · obtain rfl : i = 80 := by omega
    have c1 : decide (((80 : Nat) : Int) < 80) = false := by decide
    have a0 : h.l[(0 : Int).toNat]? = some h.a := rfl
    have a1 : h.l[(1 : Int).toNat]? = some h.b := rfl
    have a2 : h.l[(2 : Int).toNat]? = some h.c := rfl
    have a3 : h.l[(3 : Int).toNat]? = some h.d := rfl
    have a4 : h.l[(4 : Int).toNat]? = some h.e := rfl
    repeat' (first | (apply cRegD_; refine w_rD (id := 9) 15 (.cons 0 (.cons 2 (.cons 4 (.cons 6 (.cons 8 (.cons 1 (.cons 10 (.cons 3 (.cons 11 (.cons 5 (.cons 12 (.cons 7 (.cons 13 (.cons 9 (.cons 14 .nil))))))))))))))) [vec (some ⟨g2, 0, none⟩) 5 5 191 1 (rowsL rowU h.l)] [] (h := ?_)) | (first | (apply gMv_; refine w_mv (k := ?_)) | (apply gN_; first | refine nxt_ ?_ | refine rend_ ?_ | refine nxtD_ rfl ?_ | refine rendD_ (by kernel_rfl) ?_ | refine nxtT_ rfl ?_ | refine rendT_ (by kernel_rfl) ?_ | refine fk_ ?_ | refine nxtF_ (by kernel_rfl) rfl rfl ?_ ?_ | refine nxtF3_ (by kernel_rfl) rfl rfl rfl ?_ ?_ ?_) | (apply gLd_; first | refine w_ld (k := ?_) | refine w_lA (k := ?_) | refine w_lr (k := ?_) | refine w_lvc (k := ?_) | refine w_lvA (k := ?_) | refine w_l2 (k := ?_)) | (apply gG_; first | refine w_on (k := ?_) | refine w_of (k := ?_) | refine gcaseD_ rfl rfl rfl (fun h h' => ?_) (fun h h' => ?_) | refine gcaseE_ rfl rfl rfl (fun h h' => ?_) (fun h h' => ?_) | refine gcaseN_ rfl rfl rfl (fun h h' => ?_) (fun h h' => ?_) | refine gcase_ rfl rfl rfl (fun h => ?_) (fun h => ?_)) | (apply gSt_; first | refine w_st (k := ?_) | refine w_sA (k := ?_)) | (apply cSeq_; refine seq_ ?_) | (apply cReg_; refine region_ ?_) | (apply cIf_; first | refine ifT_ rfl ?_ | refine ifF_ rfl ?_ | refine ifB_ rfl (by assumption) ?_ | refine ifC_ rfl (by assumption) ?_ | refine ifD_ rfl (fun h => ?_) (fun h => ?_) | refine ifE_ rfl (fun h => ?_) (fun h => ?_) | refine ifN_ rfl (fun h => ?_) (fun h => ?_) | refine if_ rfl (fun h => ?_) (fun h => ?_)) | (apply gBd_; refine w_bd (k := ?_)) | (apply gBs_; refine w_bs (k := fun _ => ?_)) | (apply gBx_; refine w_bx (k := fun _ => ?_)) | (apply gAl_; refine w_al (k := fun _ => ?_)) | (apply gCv_; first | refine w_cv (k := ?_) | refine w_cB (kk := ?_) | refine w_cB2 (kk := ?_)) | (apply gAs_; refine w_as (k := ?_)) | (apply gFa_; refine w_fa (k := ?_)) | (apply gBi_; refine w_bi (k := ?_)) | (apply gPi_; refine w_pi (k := ?_)) | (apply gNc_; refine w_nc (k := ?_)) | (apply gXt_; refine w_xt (k := ?_)) | (apply gCB_; first | refine w_cb (k := ?_) | refine w_ap1 (k' := fun _ _ _ => ?_)) | (apply gUn_; refine w_un (k := ?_)) | (apply gFl_; refine w_fl (k := ?_)) | (apply gSl_; first | refine w_sV (k := ?_) | refine w_sl (k := ?_)) | (apply gIx_; refine w_ix (k := ?_)) | (apply gIa_; refine w_iA (k := ?_)) | (apply gMf_; refine w_mf (k := ?_)) | (apply cSkip_; refine skip_ ?_) | (apply cBlock_; refine block_ ?_) | (apply cBlk_; refine blk_ ?_) | (apply cExit_; refine exit_ rfl ?_)))
    refine loop_ (M := [vec (some ⟨g2, 0, none⟩) 5 5 191 1 (rowsL rowU h.l), vec (some ⟨g4, 0, none⟩) 5 5 191 1 (rowsL rowU (List.replicate 5 0)), vec (some ⟨g5, 0, none⟩) 80 80 22 1 (rowsL rowU (wAll s)), R])
      (fun m env L => ∃ i : Nat, m = 80 - i ∧ i ≤ 80 ∧ env = [(2, ptr g2), (4, ptr g4), (5, .slice (some ⟨g5, 0, none⟩) 80 80), (9, .int .u32 (rnd5 h s i).a), (10, .int .u32 (rnd5 h s i).b), (11, .int .u32 (rnd5 h s i).c), (12, .int .u32 (rnd5 h s i).d), (13, .int .u32 (rnd5 h s i).e), (14, .int .i64 i)] ∧
        L = [vec (some ⟨g2, 0, none⟩) 5 5 191 1 (rowsL rowU h.l), vec (some ⟨g4, 0, none⟩) 5 5 191 1 (rowsL rowU (List.replicate 5 0)), vec (some ⟨g5, 0, none⟩) 80 80 22 1 (rowsL rowU (wAll s)), R])
      80 [2, 4, 5, 9, 10, 11, 12, 13, 14] rfl (by unfold wAll; ((repeat (first | exact .nil | ((first | apply Sel.cons | apply Cut.cons); repeat (first | exact .head | apply Pl.tail)))); first | done | fail)) ⟨0, rfl, by omega, by rw [rnd5]; rfl, rfl⟩ ?_
    clear hm hi hin c1 hl
    rintro m env L ⟨i, hm, hi, rfl, rfl⟩
    have hwl : (wAll s).length = 80 := wAll_len s
    by_cases hin : i < 80
    · have c1 : decide ((i : Int) < 80) = true := decide_eq_true (by omega)
      have e : rnd5 h s (i + 1) = step5 (rnd5 h s i) ((wAll s).getD i 0) i := by conv => lhs; rw [rnd5]
      generalize hx : rnd5 h s i = x at *
      have aw : (wAll s)[(i : Int).toNat]? = some ((wAll s).getD i 0) := by
        rw [Int.toNat_natCast, List.getD_eq_getElem?_getD, List.getElem?_eq_getElem (by omega)]
        rfl
      have hm' := round_c i hin x.b x.c x.d
      repeat' (first | (apply cRegD_; refine w_rD (id := 14) 23 (.cons 0 (.cons 2 (.cons 4 (.cons 6 (.cons 8 (.cons 9 (.cons 10 (.cons 13 (.cons 14 (.cons 16 (.cons 17 (.cons 11 (.cons 1 (.cons 3 (.cons 5 (.cons 7 (.cons 12 (.cons 15 (.cons 18 (.cons 19 (.cons 20 (.cons 21 (.cons 22 .nil))))))))))))))))))))))) [vec (some ⟨g5, 0, none⟩) 80 80 22 1 (rowsL rowU (wAll s))] [] (h := ?_)) | (apply gCa_; first | refine w_cd (hm') (k := ?_) | refine w_cd (turn5_c _) (k := ?_) | refine w_cd (turn30_c _) (k := ?_)) | (first | (apply gMv_; refine w_mv (k := ?_)) | (apply gN_; first | refine nxt_ ?_ | refine rend_ ?_ | refine nxtD_ rfl ?_ | refine rendD_ (by kernel_rfl) ?_ | refine nxtT_ rfl ?_ | refine rendT_ (by kernel_rfl) ?_ | refine fk_ ?_ | refine nxtF_ (by kernel_rfl) rfl rfl ?_ ?_ | refine nxtF3_ (by kernel_rfl) rfl rfl rfl ?_ ?_ ?_) | (apply gLd_; first | refine w_ld (k := ?_) | refine w_lA (k := ?_) | refine w_lr (k := ?_) | refine w_lvc (k := ?_) | refine w_lvA (k := ?_) | refine w_l2 (k := ?_)) | (apply gG_; first | refine w_on (k := ?_) | refine w_of (k := ?_) | refine gcaseD_ rfl rfl rfl (fun h h' => ?_) (fun h h' => ?_) | refine gcaseE_ rfl rfl rfl (fun h h' => ?_) (fun h h' => ?_) | refine gcaseN_ rfl rfl rfl (fun h h' => ?_) (fun h h' => ?_) | refine gcase_ rfl rfl rfl (fun h => ?_) (fun h => ?_)) | (apply gSt_; first | refine w_st (k := ?_) | refine w_sA (k := ?_)) | (apply cSeq_; refine seq_ ?_) | (apply cReg_; refine region_ ?_) | (apply cIf_; first | refine ifT_ rfl ?_ | refine ifF_ rfl ?_ | refine ifB_ rfl (by assumption) ?_ | refine ifC_ rfl (by assumption) ?_ | refine ifD_ rfl (fun h => ?_) (fun h => ?_) | refine ifE_ rfl (fun h => ?_) (fun h => ?_) | refine ifN_ rfl (fun h => ?_) (fun h => ?_) | refine if_ rfl (fun h => ?_) (fun h => ?_)) | (apply gBd_; refine w_bd (k := ?_)) | (apply gBs_; refine w_bs (k := fun _ => ?_)) | (apply gBx_; refine w_bx (k := fun _ => ?_)) | (apply gAl_; refine w_al (k := fun _ => ?_)) | (apply gCv_; first | refine w_cv (k := ?_) | refine w_cB (kk := ?_) | refine w_cB2 (kk := ?_)) | (apply gAs_; refine w_as (k := ?_)) | (apply gFa_; refine w_fa (k := ?_)) | (apply gBi_; refine w_bi (k := ?_)) | (apply gPi_; refine w_pi (k := ?_)) | (apply gNc_; refine w_nc (k := ?_)) | (apply gXt_; refine w_xt (k := ?_)) | (apply gCB_; first | refine w_cb (k := ?_) | refine w_ap1 (k' := fun _ _ _ => ?_)) | (apply gUn_; refine w_un (k := ?_)) | (apply gFl_; refine w_fl (k := ?_)) | (apply gSl_; first | refine w_sV (k := ?_) | refine w_sl (k := ?_)) | (apply gIx_; refine w_ix (k := ?_)) | (apply gIa_; refine w_iA (k := ?_)) | (apply gMf_; refine w_mf (k := ?_)) | (apply cSkip_; refine skip_ ?_) | (apply cBlock_; refine block_ ?_) | (apply cBlk_; refine blk_ ?_) | (apply cExit_; refine exit_ rfl ?_)))
      exact e_stop _ [2, 4, 5, 9, 10, 11, 12, 13, 14] ⟨80 - (i + 1), by omega, i + 1, rfl, by omega, by rw [e], rfl⟩
    · obtain rfl : i = 80 := by omega
      have c1 : decide (((80 : Nat) : Int) < 80) = false := by decide
      have hq : (rowsL rowU (block5 h s).l).length = 5 := rfl
      repeat' (first | (apply gSt_; refine w_svAll (row := rowU) (xs := List.replicate 5 0) (ys := (block5 h s).l) rfl hq (rowU1 _) (fun _ => rfl) (k := ?_)) | (first | (apply gMv_; refine w_mv (k := ?_)) | (apply gN_; first | refine nxt_ ?_ | refine rend_ ?_ | refine nxtD_ rfl ?_ | refine rendD_ (by kernel_rfl) ?_ | refine nxtT_ rfl ?_ | refine rendT_ (by kernel_rfl) ?_ | refine fk_ ?_ | refine nxtF_ (by kernel_rfl) rfl rfl ?_ ?_ | refine nxtF3_ (by kernel_rfl) rfl rfl rfl ?_ ?_ ?_) | (apply gLd_; first | refine w_ld (k := ?_) | refine w_lA (k := ?_) | refine w_lr (k := ?_) | refine w_lvc (k := ?_) | refine w_lvA (k := ?_) | refine w_l2 (k := ?_)) | (apply gG_; first | refine w_on (k := ?_) | refine w_of (k := ?_) | refine gcaseD_ rfl rfl rfl (fun h h' => ?_) (fun h h' => ?_) | refine gcaseE_ rfl rfl rfl (fun h h' => ?_) (fun h h' => ?_) | refine gcaseN_ rfl rfl rfl (fun h h' => ?_) (fun h h' => ?_) | refine gcase_ rfl rfl rfl (fun h => ?_) (fun h => ?_)) | (apply gSt_; first | refine w_st (k := ?_) | refine w_sA (k := ?_)) | (apply cSeq_; refine seq_ ?_) | (apply cReg_; refine region_ ?_) | (apply cIf_; first | refine ifT_ rfl ?_ | refine ifF_ rfl ?_ | refine ifB_ rfl (by assumption) ?_ | refine ifC_ rfl (by assumption) ?_ | refine ifD_ rfl (fun h => ?_) (fun h => ?_) | refine ifE_ rfl (fun h => ?_) (fun h => ?_) | refine ifN_ rfl (fun h => ?_) (fun h => ?_) | refine if_ rfl (fun h => ?_) (fun h => ?_)) | (apply gBd_; refine w_bd (k := ?_)) | (apply gBs_; refine w_bs (k := fun _ => ?_)) | (apply gBx_; refine w_bx (k := fun _ => ?_)) | (apply gAl_; refine w_al (k := fun _ => ?_)) | (apply gCv_; first | refine w_cv (k := ?_) | refine w_cB (kk := ?_) | refine w_cB2 (kk := ?_)) | (apply gAs_; refine w_as (k := ?_)) | (apply gFa_; refine w_fa (k := ?_)) | (apply gBi_; refine w_bi (k := ?_)) | (apply gPi_; refine w_pi (k := ?_)) | (apply gNc_; refine w_nc (k := ?_)) | (apply gXt_; refine w_xt (k := ?_)) | (apply gCB_; first | refine w_cb (k := ?_) | refine w_ap1 (k' := fun _ _ _ => ?_)) | (apply gUn_; refine w_un (k := ?_)) | (apply gFl_; refine w_fl (k := ?_)) | (apply gSl_; first | refine w_sV (k := ?_) | refine w_sl (k := ?_)) | (apply gIx_; refine w_ix (k := ?_)) | (apply gIa_; refine w_iA (k := ?_)) | (apply gMf_; refine w_mf (k := ?_)) | (apply cSkip_; refine skip_ ?_) | (apply cBlock_; refine block_ ?_) | (apply cBlk_; refine blk_ ?_) | (apply cExit_; refine exit_ rfl ?_)))
      exact e_vec (he := rfl)
end Go.Proofs.Ytpghbkkjdfaflaa
