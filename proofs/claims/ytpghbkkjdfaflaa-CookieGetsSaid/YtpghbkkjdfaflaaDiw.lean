/- Digests: a block's words. -/
import Derived.Test.YtpghbkkjdfaflaaDig
namespace Go.Proofs.Ytpghbkkjdfaflaa
open Go.SL
attribute [local irreducible] Val ValS Does WN WB WK Sat Ctr Wn Tfin
set_option linter.unusedVariables false
set_option linter.unusedSimpArgs false
open Go.RowKit
attribute [local irreducible] be
theorem ext_ext (s : ByteArray) (a b c : Nat) (h : a + c ≤ s.size) : (s.extract a s.size).extract b c = s.extract (a + b) (a + c) := by
  apply ByteArray.ext
  simp only [ByteArray.data_extract]
  rw [Array.extract_extract]
  congr 1
  have : s.data.size = s.size := rfl
  omega
theorem rd4 (s : ByteArray) (i : Nat) (hi : i < 16) (hs : s.size = 64) : rdTake (s.extract (4 * i) s.size) 0 4 = (s.extract (4 * i) (4 * i + 4), s.extract (4 * (i + 1)) s.size, 0) := by
  have hz := ext_size0 s (4 * i) s.size (Nat.le_refl _)
  unfold rdTake
  rw [if_neg (by simp), if_neg (by omega), if_neg (by omega)]
  have e1 : (s.extract (4 * i) s.size).extract 0 (4 : Int).toNat = s.extract (4 * i) (4 * i + 4) := ext_ext s (4 * i) 0 4 (by omega)
  have e2 : (s.extract (4 * i) s.size).extract (4 : Int).toNat (s.extract (4 * i) s.size).size = s.extract (4 * (i + 1)) s.size := by
    rw [hz]
    have := ext_ext s (4 * i) 4 (s.size - 4 * i) (by omega)
    rw [show (4 : Int).toNat = 4 from rfl, this]
    congr 1
    omega
  rw [e1, e2]
theorem rowU1 (xs : List Int) : ∀ v ∈ rowsL rowU xs, v.oneCell' = true := fun v hv => by
  simp only [rowsL, List.mem_flatMap] at hv
  obtain ⟨x, _, hx⟩ := hv
  simp only [rowU, List.mem_singleton] at hx
  subst hx
  rfl
attribute [local irreducible] rotl wAt
set_option maxRecDepth 20000 in
set_option maxHeartbeats 4000000 in
theorem words_c (s : ByteArray) (hs : s.size = 64) : Ctr Try.prog 140 [.string s] [] (fun v L => v = .agg (rowsL rowU (wAll s)).toArray ∧ L = []) := by
  refine ctr_ Try.func140 rfl Try.ntmps140 rfl fun E R => ?_
  repeat' (first | (apply gAl_; refine w_alV rowU 0 (k := fun _ => ?_)) | (apply gCa_; first | refine w_cg (New_c _) (k := fun _ => ?_)) | (first | (apply gMv_; refine w_mv (k := ?_)) | (apply gN_; first | refine nxt_ ?_ | refine rend_ ?_ | refine nxtD_ rfl ?_ | refine rendD_ (by kernel_rfl) ?_ | refine nxtT_ rfl ?_ | refine rendT_ (by kernel_rfl) ?_ | refine fk_ ?_ | refine nxtF_ (by kernel_rfl) rfl rfl ?_ ?_ | refine nxtF3_ (by kernel_rfl) rfl rfl rfl ?_ ?_ ?_) | (apply gLd_; first | refine w_ld (k := ?_) | refine w_lA (k := ?_) | refine w_lr (k := ?_) | refine w_lvc (k := ?_) | refine w_lvA (k := ?_) | refine w_l2 (k := ?_)) | (apply gG_; first | refine w_on (k := ?_) | refine w_of (k := ?_) | refine gcaseD_ rfl rfl rfl (fun h h' => ?_) (fun h h' => ?_) | refine gcaseE_ rfl rfl rfl (fun h h' => ?_) (fun h h' => ?_) | refine gcaseN_ rfl rfl rfl (fun h h' => ?_) (fun h h' => ?_) | refine gcase_ rfl rfl rfl (fun h => ?_) (fun h => ?_)) | (apply gSt_; first | refine w_st (k := ?_) | refine w_sA (k := ?_)) | (apply cSeq_; refine seq_ ?_) | (apply cReg_; refine region_ ?_) | (apply cIf_; first | refine ifT_ rfl ?_ | refine ifF_ rfl ?_ | refine ifB_ rfl (by assumption) ?_ | refine ifC_ rfl (by assumption) ?_ | refine ifD_ rfl (fun h => ?_) (fun h => ?_) | refine ifE_ rfl (fun h => ?_) (fun h => ?_) | refine ifN_ rfl (fun h => ?_) (fun h => ?_) | refine if_ rfl (fun h => ?_) (fun h => ?_)) | (apply gBd_; refine w_bd (k := ?_)) | (apply gBs_; refine w_bs (k := fun _ => ?_)) | (apply gBx_; refine w_bx (k := fun _ => ?_)) | (apply gAl_; refine w_al (k := fun _ => ?_)) | (apply gCv_; first | refine w_cv (k := ?_) | refine w_cB (kk := ?_) | refine w_cB2 (kk := ?_)) | (apply gAs_; refine w_as (k := ?_)) | (apply gFa_; refine w_fa (k := ?_)) | (apply gBi_; refine w_bi (k := ?_)) | (apply gPi_; refine w_pi (k := ?_)) | (apply gNc_; refine w_nc (k := ?_)) | (apply gXt_; refine w_xt (k := ?_)) | (apply gCB_; first | refine w_cb (k := ?_) | refine w_ap1 (k' := fun _ _ _ => ?_)) | (apply gUn_; refine w_un (k := ?_)) | (apply gFl_; refine w_fl (k := ?_)) | (apply gSl_; first | refine w_sV (k := ?_) | refine w_sl (k := ?_)) | (apply gIx_; refine w_ix (k := ?_)) | (apply gIa_; refine w_iA (k := ?_)) | (apply gMf_; refine w_mf (k := ?_)) | (apply cSkip_; refine skip_ ?_) | (apply cBlock_; refine block_ ?_) | (apply cBlk_; refine blk_ ?_) | (apply cExit_; refine exit_ rfl ?_)))
  rename_i g2 g3 g
  refine loop_ (M := [vec (some ⟨g3, 0, none⟩) 80 80 209 1 (rowsL rowU (List.replicate 80 0)), vec (some ⟨g2, 0, none⟩) 80 80 209 1 (rowsL rowU (List.replicate 80 0)), rdr g s 0, R])
    (fun m env L => ∃ i : Nat, m = 16 - i ∧ i ≤ 16 ∧ env = [(2, ptr g2), (3, ptr g3), (4, ptr g), (9, .int .i64 i)] ∧
      L = [vec (some ⟨g3, 0, none⟩) 80 80 209 1 (rowsL rowU (wAt s i)), vec (some ⟨g2, 0, none⟩) 80 80 209 1 (rowsL rowU (List.replicate 80 0)), rdr g (s.extract (4 * i) s.size) 0, R])
    16 [2, 3, 4, 9] rfl (by ((repeat (first | exact .nil | ((first | apply Sel.cons | apply Cut.cons); repeat (first | exact .head | apply Pl.tail)))); first | done | fail)) ⟨0, rfl, by omega, rfl, by
      have e : s.extract (4 * 0) s.size = s := by apply ByteArray.ext; simp
      rw [e, wAt]⟩ ?_
  rintro m env L ⟨i, hm, hi, rfl, rfl⟩
  by_cases hin : i < 16
  · have c1 : decide ((i : Int) < 16) = true := decide_eq_true (by omega)
    have hU := rU32_c g (s.extract (4 * i) s.size) 0
    rw [rd4 s i hin hs] at hU
    simp only at hU
    have hl := wAt_len s i
    obtain ⟨b, hb⟩ : ∃ b, (wAt s i)[i]? = some b := ⟨(wAt s i)[i]'(by omega), List.getElem?_eq_getElem (by omega)⟩
    repeat' (first | (apply gSt_; refine w_svc (row := rowU) (beN (s.extract (4 * i) (4 * i + 4))) (fun _ => rfl) hb (k := ?_)) | (apply gCa_; first | refine w_cd (hU) (k := ?_)) | (first | (apply gMv_; refine w_mv (k := ?_)) | (apply gN_; first | refine nxt_ ?_ | refine rend_ ?_ | refine nxtD_ rfl ?_ | refine rendD_ (by kernel_rfl) ?_ | refine nxtT_ rfl ?_ | refine rendT_ (by kernel_rfl) ?_ | refine fk_ ?_ | refine nxtF_ (by kernel_rfl) rfl rfl ?_ ?_ | refine nxtF3_ (by kernel_rfl) rfl rfl rfl ?_ ?_ ?_) | (apply gLd_; first | refine w_ld (k := ?_) | refine w_lA (k := ?_) | refine w_lr (k := ?_) | refine w_lvc (k := ?_) | refine w_lvA (k := ?_) | refine w_l2 (k := ?_)) | (apply gG_; first | refine w_on (k := ?_) | refine w_of (k := ?_) | refine gcaseD_ rfl rfl rfl (fun h h' => ?_) (fun h h' => ?_) | refine gcaseE_ rfl rfl rfl (fun h h' => ?_) (fun h h' => ?_) | refine gcaseN_ rfl rfl rfl (fun h h' => ?_) (fun h h' => ?_) | refine gcase_ rfl rfl rfl (fun h => ?_) (fun h => ?_)) | (apply gSt_; first | refine w_st (k := ?_) | refine w_sA (k := ?_)) | (apply cSeq_; refine seq_ ?_) | (apply cReg_; refine region_ ?_) | (apply cIf_; first | refine ifT_ rfl ?_ | refine ifF_ rfl ?_ | refine ifB_ rfl (by assumption) ?_ | refine ifC_ rfl (by assumption) ?_ | refine ifD_ rfl (fun h => ?_) (fun h => ?_) | refine ifE_ rfl (fun h => ?_) (fun h => ?_) | refine ifN_ rfl (fun h => ?_) (fun h => ?_) | refine if_ rfl (fun h => ?_) (fun h => ?_)) | (apply gBd_; refine w_bd (k := ?_)) | (apply gBs_; refine w_bs (k := fun _ => ?_)) | (apply gBx_; refine w_bx (k := fun _ => ?_)) | (apply gAl_; refine w_al (k := fun _ => ?_)) | (apply gCv_; first | refine w_cv (k := ?_) | refine w_cB (kk := ?_) | refine w_cB2 (kk := ?_)) | (apply gAs_; refine w_as (k := ?_)) | (apply gFa_; refine w_fa (k := ?_)) | (apply gBi_; refine w_bi (k := ?_)) | (apply gPi_; refine w_pi (k := ?_)) | (apply gNc_; refine w_nc (k := ?_)) | (apply gXt_; refine w_xt (k := ?_)) | (apply gCB_; first | refine w_cb (k := ?_) | refine w_ap1 (k' := fun _ _ _ => ?_)) | (apply gUn_; refine w_un (k := ?_)) | (apply gFl_; refine w_fl (k := ?_)) | (apply gSl_; first | refine w_sV (k := ?_) | refine w_sl (k := ?_)) | (apply gIx_; refine w_ix (k := ?_)) | (apply gIa_; refine w_iA (k := ?_)) | (apply gMf_; refine w_mf (k := ?_)) | (apply cSkip_; refine skip_ ?_) | (apply cBlock_; refine block_ ?_) | (apply cBlk_; refine blk_ ?_) | (apply cExit_; refine exit_ rfl ?_)))
    have e : (wAt s i).set i (beN (s.extract (4 * i) (4 * i + 4))) = wAt s (i + 1) := by
      conv => rhs; unfold wAt
      unfold wVal
      rw [if_pos hin]
      rfl
    rw [e]
    exact e_stop _ [2, 3, 4, 9] ⟨16 - (i + 1), by omega, i + 1, rfl, by omega, rfl, rfl⟩
  · obtain rfl : i = 16 := by omega
    have c1 : decide (((16 : Nat) : Int) < 16) = false := by decide
    repeat' (first | (apply gMv_; refine w_mv (k := ?_)) | (apply gN_; first | refine nxt_ ?_ | refine rend_ ?_ | refine nxtD_ rfl ?_ | refine rendD_ (by kernel_rfl) ?_ | refine nxtT_ rfl ?_ | refine rendT_ (by kernel_rfl) ?_ | refine fk_ ?_ | refine nxtF_ (by kernel_rfl) rfl rfl ?_ ?_ | refine nxtF3_ (by kernel_rfl) rfl rfl rfl ?_ ?_ ?_) | (apply gLd_; first | refine w_ld (k := ?_) | refine w_lA (k := ?_) | refine w_lr (k := ?_) | refine w_lvc (k := ?_) | refine w_lvA (k := ?_) | refine w_l2 (k := ?_)) | (apply gG_; first | refine w_on (k := ?_) | refine w_of (k := ?_) | refine gcaseD_ rfl rfl rfl (fun h h' => ?_) (fun h h' => ?_) | refine gcaseE_ rfl rfl rfl (fun h h' => ?_) (fun h h' => ?_) | refine gcaseN_ rfl rfl rfl (fun h h' => ?_) (fun h h' => ?_) | refine gcase_ rfl rfl rfl (fun h => ?_) (fun h => ?_)) | (apply gSt_; first | refine w_st (k := ?_) | refine w_sA (k := ?_)) | (apply cSeq_; refine seq_ ?_) | (apply cReg_; refine region_ ?_) | (apply cIf_; first | refine ifT_ rfl ?_ | refine ifF_ rfl ?_ | refine ifB_ rfl (by assumption) ?_ | refine ifC_ rfl (by assumption) ?_ | refine ifD_ rfl (fun h => ?_) (fun h => ?_) | refine ifE_ rfl (fun h => ?_) (fun h => ?_) | refine ifN_ rfl (fun h => ?_) (fun h => ?_) | refine if_ rfl (fun h => ?_) (fun h => ?_)) | (apply gBd_; refine w_bd (k := ?_)) | (apply gBs_; refine w_bs (k := fun _ => ?_)) | (apply gBx_; refine w_bx (k := fun _ => ?_)) | (apply gAl_; refine w_al (k := fun _ => ?_)) | (apply gCv_; first | refine w_cv (k := ?_) | refine w_cB (kk := ?_) | refine w_cB2 (kk := ?_)) | (apply gAs_; refine w_as (k := ?_)) | (apply gFa_; refine w_fa (k := ?_)) | (apply gBi_; refine w_bi (k := ?_)) | (apply gPi_; refine w_pi (k := ?_)) | (apply gNc_; refine w_nc (k := ?_)) | (apply gXt_; refine w_xt (k := ?_)) | (apply gCB_; first | refine w_cb (k := ?_) | refine w_ap1 (k' := fun _ _ _ => ?_)) | (apply gUn_; refine w_un (k := ?_)) | (apply gFl_; refine w_fl (k := ?_)) | (apply gSl_; first | refine w_sV (k := ?_) | refine w_sl (k := ?_)) | (apply gIx_; refine w_ix (k := ?_)) | (apply gIa_; refine w_iA (k := ?_)) | (apply gMf_; refine w_mf (k := ?_)) | (apply cSkip_; refine skip_ ?_) | (apply cBlock_; refine block_ ?_) | (apply cBlk_; refine blk_ ?_) | (apply cExit_; refine exit_ rfl ?_))
    refine loop_ (M := [vec (some ⟨g3, 0, none⟩) 80 80 209 1 (rowsL rowU (wAt s 16)), vec (some ⟨g2, 0, none⟩) 80 80 209 1 (rowsL rowU (List.replicate 80 0)), R])
      (fun m env L => ∃ i : Nat, m = 80 - i ∧ 16 ≤ i ∧ i ≤ 80 ∧ env = [(2, ptr g2), (3, ptr g3), (6, .int .i64 i)] ∧
        L = [vec (some ⟨g3, 0, none⟩) 80 80 209 1 (rowsL rowU (wAt s i)), vec (some ⟨g2, 0, none⟩) 80 80 209 1 (rowsL rowU (List.replicate 80 0)), R])
      64 [2, 3, 6] rfl (by ((repeat (first | exact .nil | ((first | apply Sel.cons | apply Cut.cons); repeat (first | exact .head | apply Pl.tail)))); first | done | fail)) ⟨16, rfl, by omega, by omega, rfl, rfl⟩ ?_
    clear hm hi hin c1
    rintro m env L ⟨i, hm, h16, hi, rfl, rfl⟩
    have hl := wAt_len s i
    by_cases hin : i < 80
    · have c1 : decide ((i : Int) < 80) = true := decide_eq_true (by omega)
      have hg : ∀ k : Nat, k ≤ i → k ≠ 0 → (wAt s i)[((i : Int) - (k : Int)).toNat]? = some ((wAt s i).getD (i - k) 0) := fun k h1 h2 => by
        have e : ((i : Int) - (k : Int)).toNat = i - k := by omega
        rw [e, List.getD_eq_getElem?_getD, List.getElem?_eq_getElem (by omega)]
        rfl
      have g3' : (wAt s i)[((i : Int) - 3).toNat]? = some ((wAt s i).getD (i - 3) 0) := hg 3 (by omega) (by omega)
      have g8' : (wAt s i)[((i : Int) - 8).toNat]? = some ((wAt s i).getD (i - 8) 0) := hg 8 (by omega) (by omega)
      have g14' : (wAt s i)[((i : Int) - 14).toNat]? = some ((wAt s i).getD (i - 14) 0) := hg 14 (by omega) (by omega)
      have g16' : (wAt s i)[((i : Int) - 16).toNat]? = some ((wAt s i).getD (i - 16) 0) := hg 16 (by omega) (by omega)
      obtain ⟨b, hb⟩ : ∃ b, (wAt s i)[i]? = some b := ⟨(wAt s i)[i]'(by omega), List.getElem?_eq_getElem (by omega)⟩
      repeat' (first | (apply cRegD_; refine w_rD (id := 11) 23 (.cons 0 (.cons 1 (.cons 2 (.cons 3 (.cons 5 (.cons 6 (.cons 7 (.cons 10 (.cons 11 (.cons 12 (.cons 15 (.cons 16 (.cons 17 (.cons 4 (.cons 8 (.cons 9 (.cons 13 (.cons 14 (.cons 18 (.cons 19 (.cons 20 (.cons 21 (.cons 22 .nil))))))))))))))))))))))) [vec (some ⟨g3, 0, none⟩) 80 80 209 1 (rowsL rowU (wAt s i))] [22] (h := ?_)) | (apply gSt_; refine w_svc (row := rowU) (wMix (wAt s i) i) (fun _ => rfl) hb (k := ?_)) | (apply gCa_; first | refine w_cd (RotL1_c _) (k := ?_)) | (first | (apply gMv_; refine w_mv (k := ?_)) | (apply gN_; first | refine nxt_ ?_ | refine rend_ ?_ | refine nxtD_ rfl ?_ | refine rendD_ (by kernel_rfl) ?_ | refine nxtT_ rfl ?_ | refine rendT_ (by kernel_rfl) ?_ | refine fk_ ?_ | refine nxtF_ (by kernel_rfl) rfl rfl ?_ ?_ | refine nxtF3_ (by kernel_rfl) rfl rfl rfl ?_ ?_ ?_) | (apply gLd_; first | refine w_ld (k := ?_) | refine w_lA (k := ?_) | refine w_lr (k := ?_) | refine w_lvc (k := ?_) | refine w_lvA (k := ?_) | refine w_l2 (k := ?_)) | (apply gG_; first | refine w_on (k := ?_) | refine w_of (k := ?_) | refine gcaseD_ rfl rfl rfl (fun h h' => ?_) (fun h h' => ?_) | refine gcaseE_ rfl rfl rfl (fun h h' => ?_) (fun h h' => ?_) | refine gcaseN_ rfl rfl rfl (fun h h' => ?_) (fun h h' => ?_) | refine gcase_ rfl rfl rfl (fun h => ?_) (fun h => ?_)) | (apply gSt_; first | refine w_st (k := ?_) | refine w_sA (k := ?_)) | (apply cSeq_; refine seq_ ?_) | (apply cReg_; refine region_ ?_) | (apply cIf_; first | refine ifT_ rfl ?_ | refine ifF_ rfl ?_ | refine ifB_ rfl (by assumption) ?_ | refine ifC_ rfl (by assumption) ?_ | refine ifD_ rfl (fun h => ?_) (fun h => ?_) | refine ifE_ rfl (fun h => ?_) (fun h => ?_) | refine ifN_ rfl (fun h => ?_) (fun h => ?_) | refine if_ rfl (fun h => ?_) (fun h => ?_)) | (apply gBd_; refine w_bd (k := ?_)) | (apply gBs_; refine w_bs (k := fun _ => ?_)) | (apply gBx_; refine w_bx (k := fun _ => ?_)) | (apply gAl_; refine w_al (k := fun _ => ?_)) | (apply gCv_; first | refine w_cv (k := ?_) | refine w_cB (kk := ?_) | refine w_cB2 (kk := ?_)) | (apply gAs_; refine w_as (k := ?_)) | (apply gFa_; refine w_fa (k := ?_)) | (apply gBi_; refine w_bi (k := ?_)) | (apply gPi_; refine w_pi (k := ?_)) | (apply gNc_; refine w_nc (k := ?_)) | (apply gXt_; refine w_xt (k := ?_)) | (apply gCB_; first | refine w_cb (k := ?_) | refine w_ap1 (k' := fun _ _ _ => ?_)) | (apply gUn_; refine w_un (k := ?_)) | (apply gFl_; refine w_fl (k := ?_)) | (apply gSl_; first | refine w_sV (k := ?_) | refine w_sl (k := ?_)) | (apply gIx_; refine w_ix (k := ?_)) | (apply gIa_; refine w_iA (k := ?_)) | (apply gMf_; refine w_mf (k := ?_)) | (apply cSkip_; refine skip_ ?_) | (apply cBlock_; refine block_ ?_) | (apply cBlk_; refine blk_ ?_) | (apply cExit_; refine exit_ rfl ?_)))
      have e : (wAt s i).set i (wMix (wAt s i) i) = wAt s (i + 1) := by
        conv => rhs; unfold wAt
        unfold wVal
        rw [if_neg (by omega)]
      rw [e]
      exact e_stop _ [2, 3, 6] ⟨80 - (i + 1), by omega, i + 1, rfl, by omega, by omega, rfl, rfl⟩
    · obtain rfl : i = 80 := by omega
      have c1 : decide (((80 : Nat) : Int) < 80) = false := by decide
      have hq : (rowsL rowU (wAt s 80)).length = 80 := by rw [rows_length (sz := 1) (fun _ => rfl), hl]
      repeat' (first | (apply gLd_; refine w_lvAll (k := ?_)) | (apply gSt_; refine w_svAll (row := rowU) (xs := List.replicate 80 0) (ys := wAt s 80) (by rw [hl, List.length_replicate]) hq (rowU1 _) (fun _ => rfl) (k := ?_)) | (first | (apply gMv_; refine w_mv (k := ?_)) | (apply gN_; first | refine nxt_ ?_ | refine rend_ ?_ | refine nxtD_ rfl ?_ | refine rendD_ (by kernel_rfl) ?_ | refine nxtT_ rfl ?_ | refine rendT_ (by kernel_rfl) ?_ | refine fk_ ?_ | refine nxtF_ (by kernel_rfl) rfl rfl ?_ ?_ | refine nxtF3_ (by kernel_rfl) rfl rfl rfl ?_ ?_ ?_) | (apply gLd_; first | refine w_ld (k := ?_) | refine w_lA (k := ?_) | refine w_lr (k := ?_) | refine w_lvc (k := ?_) | refine w_lvA (k := ?_) | refine w_l2 (k := ?_)) | (apply gG_; first | refine w_on (k := ?_) | refine w_of (k := ?_) | refine gcaseD_ rfl rfl rfl (fun h h' => ?_) (fun h h' => ?_) | refine gcaseE_ rfl rfl rfl (fun h h' => ?_) (fun h h' => ?_) | refine gcaseN_ rfl rfl rfl (fun h h' => ?_) (fun h h' => ?_) | refine gcase_ rfl rfl rfl (fun h => ?_) (fun h => ?_)) | (apply gSt_; first | refine w_st (k := ?_) | refine w_sA (k := ?_)) | (apply cSeq_; refine seq_ ?_) | (apply cReg_; refine region_ ?_) | (apply cIf_; first | refine ifT_ rfl ?_ | refine ifF_ rfl ?_ | refine ifB_ rfl (by assumption) ?_ | refine ifC_ rfl (by assumption) ?_ | refine ifD_ rfl (fun h => ?_) (fun h => ?_) | refine ifE_ rfl (fun h => ?_) (fun h => ?_) | refine ifN_ rfl (fun h => ?_) (fun h => ?_) | refine if_ rfl (fun h => ?_) (fun h => ?_)) | (apply gBd_; refine w_bd (k := ?_)) | (apply gBs_; refine w_bs (k := fun _ => ?_)) | (apply gBx_; refine w_bx (k := fun _ => ?_)) | (apply gAl_; refine w_al (k := fun _ => ?_)) | (apply gCv_; first | refine w_cv (k := ?_) | refine w_cB (kk := ?_) | refine w_cB2 (kk := ?_)) | (apply gAs_; refine w_as (k := ?_)) | (apply gFa_; refine w_fa (k := ?_)) | (apply gBi_; refine w_bi (k := ?_)) | (apply gPi_; refine w_pi (k := ?_)) | (apply gNc_; refine w_nc (k := ?_)) | (apply gXt_; refine w_xt (k := ?_)) | (apply gCB_; first | refine w_cb (k := ?_) | refine w_ap1 (k' := fun _ _ _ => ?_)) | (apply gUn_; refine w_un (k := ?_)) | (apply gFl_; refine w_fl (k := ?_)) | (apply gSl_; first | refine w_sV (k := ?_) | refine w_sl (k := ?_)) | (apply gIx_; refine w_ix (k := ?_)) | (apply gIa_; refine w_iA (k := ?_)) | (apply gMf_; refine w_mf (k := ?_)) | (apply cSkip_; refine skip_ ?_) | (apply cBlock_; refine block_ ?_) | (apply cBlk_; refine blk_ ?_) | (apply cExit_; refine exit_ rfl ?_)))
      exact e_vec
end Go.Proofs.Ytpghbkkjdfaflaa
