/- Cookies: the laws' own functions. -/
import Derived.Test.YtpghbkkjdfaflaaCq
set_option linter.unusedVariables false
set_option linter.unusedSimpArgs false
namespace Go.Proofs.Ytpghbkkjdfaflaa
open Go.SL
attribute [local irreducible] Val ValS Does WN WB WK Sat Ctr Wn Tfin
set_option linter.unusedVariables false
set_option linter.unusedSimpArgs false
open Go.RowKit
attribute [local irreducible] be macB Ck.raw
theorem wrap_i64_rng (x : Int) : -9223372036854775808 ≤ IntKind.i64.wrap x ∧ IntKind.i64.wrap x ≤ 9223372036854775807 := by
  rw [IntKind.wrap_i64]
  omega
theorem wrap_i64_nn (x : Int) (h0 : 0 ≤ x) (h1 : x < 18446744073709551616) (h : 0 ≤ IntKind.i64.wrap x) : IntKind.i64.wrap x = x := by
  rw [IntKind.wrap_i64] at h ⊢
  omega
def rnd16 (s : ByteArray) : ByteArray := (s ++ ⟨#[48, 49, 50, 51, 52, 53, 54, 55, 56, 57, 97, 98, 99, 100, 101, 102]⟩).extract 0 16
theorem rnd16_size (s : ByteArray) : (rnd16 s).size = 16 := by
  have e : (⟨#[48, 49, 50, 51, 52, 53, 54, 55, 56, 57, 97, 98, 99, 100, 101, 102]⟩ : ByteArray).size = 16 := rfl
  unfold rnd16
  rw [ByteArray.size_extract, ByteArray.size_append, e]
  omega
theorem random_c (s : ByteArray) (hs : s.size ≤ 9223372036854775000) : Ctr Try.prog 50 [.string s] [] (fun v L => v = .string (rnd16 s) ∧ L = []) := by
  have e : (⟨#[48, 49, 50, 51, 52, 53, 54, 55, 56, 57, 97, 98, 99, 100, 101, 102]⟩ : ByteArray).size = 16 := rfl
  have hz : (s ++ (⟨#[48, 49, 50, 51, 52, 53, 54, 55, 56, 57, 97, 98, 99, 100, 101, 102]⟩ : ByteArray)).size = s.size + 16 := by rw [ByteArray.size_append, e]
  refine ctr_ Try.func50 rfl Try.ntmps50 rfl fun E R => ?_
  repeat' (first | (apply gBi_; refine w_cat (h := bcat rfl rfl (by rw [e]; omega)) (k := ?_)) | (first | (apply gMv_; refine w_mv (k := ?_)) | (apply gN_; first | refine nxt_ ?_ | refine rend_ ?_ | refine nxtD_ rfl ?_ | refine rendD_ (by kernel_rfl) ?_ | refine nxtT_ rfl ?_ | refine rendT_ (by kernel_rfl) ?_ | refine fk_ ?_ | refine nxtF_ (by kernel_rfl) rfl rfl ?_ ?_ | refine nxtF3_ (by kernel_rfl) rfl rfl rfl ?_ ?_ ?_) | (apply gLd_; first | refine w_ld (k := ?_) | refine w_lA (k := ?_) | refine w_lr (k := ?_) | refine w_lvc (k := ?_) | refine w_lvA (k := ?_) | refine w_l2 (k := ?_)) | (apply gG_; first | refine w_on (k := ?_) | refine w_of (k := ?_) | refine gcaseD_ rfl rfl rfl (fun h h' => ?_) (fun h h' => ?_) | refine gcaseE_ rfl rfl rfl (fun h h' => ?_) (fun h h' => ?_) | refine gcaseN_ rfl rfl rfl (fun h h' => ?_) (fun h h' => ?_) | refine gcase_ rfl rfl rfl (fun h => ?_) (fun h => ?_)) | (apply gSt_; first | refine w_st (k := ?_) | refine w_sA (k := ?_)) | (apply cSeq_; refine seq_ ?_) | (apply cReg_; refine region_ ?_) | (apply cIf_; first | refine ifT_ rfl ?_ | refine ifF_ rfl ?_ | refine ifB_ rfl (by assumption) ?_ | refine ifC_ rfl (by assumption) ?_ | refine ifD_ rfl (fun h => ?_) (fun h => ?_) | refine ifE_ rfl (fun h => ?_) (fun h => ?_) | refine ifN_ rfl (fun h => ?_) (fun h => ?_) | refine if_ rfl (fun h => ?_) (fun h => ?_)) | (apply gBd_; refine w_bd (k := ?_)) | (apply gBs_; refine w_bs (k := fun _ => ?_)) | (apply gBx_; refine w_bx (k := fun _ => ?_)) | (apply gAl_; refine w_al (k := fun _ => ?_)) | (apply gCv_; first | refine w_cv (k := ?_) | refine w_cB (kk := ?_) | refine w_cB2 (kk := ?_)) | (apply gAs_; refine w_as (k := ?_)) | (apply gFa_; refine w_fa (k := ?_)) | (apply gBi_; refine w_bi (k := ?_)) | (apply gPi_; refine w_pi (k := ?_)) | (apply gNc_; refine w_nc (k := ?_)) | (apply gXt_; refine w_xt (k := ?_)) | (apply gCB_; first | refine w_cb (k := ?_) | refine w_ap1 (k' := fun _ _ _ => ?_)) | (apply gUn_; refine w_un (k := ?_)) | (apply gFl_; refine w_fl (k := ?_)) | (apply gSl_; first | refine w_sV (k := ?_) | refine w_sl (k := ?_)) | (apply gIx_; refine w_ix (k := ?_)) | (apply gIa_; refine w_iA (k := ?_)) | (apply gMf_; refine w_mf (k := ?_)) | (apply cSkip_; refine skip_ ?_) | (apply cBlock_; refine block_ ?_) | (apply cBlk_; refine blk_ ?_) | (apply cExit_; refine exit_ rfl ?_)))
  exact e_rets
def ck0 : Ck := ⟨0, 1, 2, 0, 0, 0, 0, 0, 0, 0, 0, 0, 0, 0, rnd16 ⟨#[]⟩, rnd16 ⟨#[120]⟩⟩
theorem ck0_ok : ck0.Ok := ⟨by decide, by unfold Rng; decide, by unfold Rng; decide, by unfold Rng; decide, by unfold Rng; decide, by unfold Rng; decide, by unfold Rng; decide, by unfold Rng; decide, by unfold Rng; decide, by unfold Rng; decide⟩
theorem ck0_may : ck0.may = true := by
  have h1 := rnd16_size ⟨#[]⟩
  have h2 := rnd16_size ⟨#[120]⟩
  show (decide ((0 : Int) ≥ 0) && ((1 : Int) != 0) && ((2 : Int) != 0) && wordB 0 && wordB 0 && wordB 0 && wordB 0 && (((rnd16 ⟨#[]⟩).size : Int) == 16) && (((rnd16 ⟨#[120]⟩).size : Int) == 16)) = true
  rw [h1, h2]
  decide
attribute [local irreducible] rnd16
set_option maxRecDepth 20000 in
theorem awake_c : Ctr Try.prog 52 [] [] (fun v L => v = .bool true ∧ L = []) := by
  have r1 := random_c ⟨#[]⟩ (by decide)
  have r2 := random_c ⟨#[120]⟩ (by decide)
  have hP := ckPut_c ⟨#[107]⟩ ck0 (by decide) ck0_ok
  have hG := getPut_c ⟨#[107]⟩ 5 ck0 ck0_may ck0_ok (by decide) (by decide)
  have hl : lateB 5 ck0.made = false := by decide
  rw [hl] at hG
  refine ctr_ Try.func52 rfl Try.ntmps52 rfl fun E R => ?_
  repeat' (first | (apply gCa_; first | refine w_cd (r1) (k := ?_) | refine w_cd (r2) (k := ?_) | refine w_cd (hP) (k := ?_) | refine w_cd (hG) (k := ?_)) | (first | (apply gMv_; refine w_mv (k := ?_)) | (apply gN_; first | refine nxt_ ?_ | refine rend_ ?_ | refine nxtD_ rfl ?_ | refine rendD_ (by kernel_rfl) ?_ | refine nxtT_ rfl ?_ | refine rendT_ (by kernel_rfl) ?_ | refine fk_ ?_ | refine nxtF_ (by kernel_rfl) rfl rfl ?_ ?_ | refine nxtF3_ (by kernel_rfl) rfl rfl rfl ?_ ?_ ?_) | (apply gLd_; first | refine w_ld (k := ?_) | refine w_lA (k := ?_) | refine w_lr (k := ?_) | refine w_lvc (k := ?_) | refine w_lvA (k := ?_) | refine w_l2 (k := ?_)) | (apply gG_; first | refine w_on (k := ?_) | refine w_of (k := ?_) | refine gcaseD_ rfl rfl rfl (fun h h' => ?_) (fun h h' => ?_) | refine gcaseE_ rfl rfl rfl (fun h h' => ?_) (fun h h' => ?_) | refine gcaseN_ rfl rfl rfl (fun h h' => ?_) (fun h h' => ?_) | refine gcase_ rfl rfl rfl (fun h => ?_) (fun h => ?_)) | (apply gSt_; first | refine w_st (k := ?_) | refine w_sA (k := ?_)) | (apply cSeq_; refine seq_ ?_) | (apply cReg_; refine region_ ?_) | (apply cIf_; first | refine ifT_ rfl ?_ | refine ifF_ rfl ?_ | refine ifB_ rfl (by assumption) ?_ | refine ifC_ rfl (by assumption) ?_ | refine ifD_ rfl (fun h => ?_) (fun h => ?_) | refine ifE_ rfl (fun h => ?_) (fun h => ?_) | refine ifN_ rfl (fun h => ?_) (fun h => ?_) | refine if_ rfl (fun h => ?_) (fun h => ?_)) | (apply gBd_; refine w_bd (k := ?_)) | (apply gBs_; refine w_bs (k := fun _ => ?_)) | (apply gBx_; refine w_bx (k := fun _ => ?_)) | (apply gAl_; refine w_al (k := fun _ => ?_)) | (apply gCv_; first | refine w_cv (k := ?_) | refine w_cB (kk := ?_) | refine w_cB2 (kk := ?_)) | (apply gAs_; refine w_as (k := ?_)) | (apply gFa_; refine w_fa (k := ?_)) | (apply gBi_; refine w_bi (k := ?_)) | (apply gPi_; refine w_pi (k := ?_)) | (apply gNc_; refine w_nc (k := ?_)) | (apply gXt_; refine w_xt (k := ?_)) | (apply gCB_; first | refine w_cb (k := ?_) | refine w_ap1 (k' := fun _ _ _ => ?_)) | (apply gUn_; refine w_un (k := ?_)) | (apply gFl_; refine w_fl (k := ?_)) | (apply gSl_; first | refine w_sV (k := ?_) | refine w_sl (k := ?_)) | (apply gIx_; refine w_ix (k := ?_)) | (apply gIa_; refine w_iA (k := ?_)) | (apply gMf_; refine w_mf (k := ?_)) | (apply cSkip_; refine skip_ ?_) | (apply cBlock_; refine block_ ?_) | (apply cBlk_; refine blk_ ?_) | (apply cExit_; refine exit_ rfl ?_)))
  exact e_rets
end Go.Proofs.Ytpghbkkjdfaflaa
namespace Go.SL
open Go.RowKit
theorem ext_cat (s : ByteArray) (a b c : Nat) (h1 : a ≤ b) (h2 : b ≤ c) : s.extract a b ++ s.extract b c = s.extract a c := by
  apply ByteArray.ext
  simp only [ByteArray.data_extract, ByteArray.data_append]
  rw [Array.extract_append_extract, Nat.min_eq_left h1, Nat.max_eq_right h2]
end Go.SL
namespace Go.Proofs.Ytpghbkkjdfaflaa
open Go.SL
attribute [local irreducible] Val ValS Does WN WB WK Sat Ctr Wn Tfin
set_option linter.unusedVariables false
set_option linter.unusedSimpArgs false
open Go.RowKit
theorem beX (s : ByteArray) (a b k : Nat) (h : b ≤ s.size) (hk : a + k = b) : be k (beN (s.extract a b)) = s.extract a b := be_beN k _ (by rw [ByteArray.size_extract]; omega)
theorem rngX (s : ByteArray) (a : Nat) (h : a + 4 ≤ s.size) : Rng (beN (s.extract a (a + 4))) := by
  have := beN_bound (s.extract a (a + 4)) 4 (by rw [ByteArray.size_extract]; omega)
  exact ⟨beN_nonneg _, by omega⟩
theorem ckOf_ok (s : ByteArray) (h : s.size = 84) : (ckOf s).Ok := by
  refine ⟨?_, rngX s 8 (by omega), rngX s 12 (by omega), rngX s 16 (by omega), rngX s 20 (by omega), rngX s 24 (by omega), rngX s 28 (by omega), rngX s 36 (by omega), rngX s 44 (by omega), rngX s 48 (by omega)⟩
  show -9223372036854775808 ≤ IntKind.i64.wrap (beN (s.extract 0 8)) ∧ IntKind.i64.wrap (beN (s.extract 0 8)) ≤ 9223372036854775807
  exact wrap_i64_rng _
theorem raw_ckOf (s : ByteArray) (h : s.size = 84) (hm : (ckOf s).may = true) : (ckOf s).raw = s := by
  obtain ⟨h1, _⟩ := (ckOf s).may_all hm
  have hb := beN_bound (s.extract 0 8) 8 (by rw [ByteArray.size_extract]; omega)
  have h0 := beN_nonneg (s.extract 0 8)
  have e1 : IntKind.i64.wrap (beN (s.extract 0 8)) = beN (s.extract 0 8) := by
    have h1' : 0 ≤ IntKind.i64.wrap (beN (s.extract 0 8)) := h1
    exact wrap_i64_nn _ h0 (by omega) h1'
  have e0 : s.extract 0 84 = s := by
    apply ByteArray.ext
    have : s.data.size = 84 := h
    simp [← this]
  unfold Ck.raw ckOf
  simp only
  rw [e1]
  rw [beX s 0 8 8 (by omega) rfl, beX s 8 12 4 (by omega) rfl, beX s 12 16 4 (by omega) rfl, beX s 16 20 4 (by omega) rfl, beX s 20 24 4 (by omega) rfl, beX s 24 28 4 (by omega) rfl, beX s 28 32 4 (by omega) rfl, beX s 32 34 2 (by omega) rfl, beX s 34 36 2 (by omega) rfl, beX s 36 40 4 (by omega) rfl, beX s 40 42 2 (by omega) rfl, beX s 42 44 2 (by omega) rfl, beX s 44 48 4 (by omega) rfl, beX s 48 52 4 (by omega) rfl]
  rw [ext_cat s 0 8 12 (by omega) (by omega), ext_cat s 0 12 16 (by omega) (by omega), ext_cat s 0 16 20 (by omega) (by omega), ext_cat s 0 20 24 (by omega) (by omega), ext_cat s 0 24 28 (by omega) (by omega), ext_cat s 0 28 32 (by omega) (by omega), ext_cat s 0 32 34 (by omega) (by omega), ext_cat s 0 34 36 (by omega) (by omega), ext_cat s 0 36 40 (by omega) (by omega), ext_cat s 0 40 42 (by omega) (by omega), ext_cat s 0 42 44 (by omega) (by omega), ext_cat s 0 44 48 (by omega) (by omega), ext_cat s 0 48 52 (by omega) (by omega), ext_cat s 0 52 68 (by omega) (by omega), ext_cat s 0 68 84 (by omega) (by omega)]
  exact e0
end Go.Proofs.Ytpghbkkjdfaflaa
