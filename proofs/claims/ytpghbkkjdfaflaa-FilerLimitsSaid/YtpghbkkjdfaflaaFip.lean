/- Filer: pieces made; whatever bytes are read. -/
import Derived.Test.YtpghbkkjdfaflaaFit
namespace Go.Proofs.Ytpghbkkjdfaflaa
open Go.SL
attribute [local irreducible] Val ValS Does WN WB WK Sat Ctr Wn Tfin
set_option linter.unusedVariables false
set_option linter.unusedSimpArgs false
open Go.RowKit
attribute [local irreducible] be
theorem form_of (s : ByteArray) (h : 12 ≤ s.size) : ∃ id n k t, s = pieceB id n k t ∧ 0 ≤ id ∧ id < 4294967296 ∧ 0 ≤ n ∧ n < 4294967296 ∧ 0 ≤ k ∧ k < 4294967296 ∧ t.size + 12 = s.size := by
  have a1 := ext_size0 s 0 4 (by omega)
  have r1 := ext_size0 s 4 s.size (Nat.le_refl _)
  generalize hs1 : s.extract 4 s.size = s1 at r1
  have a2 := ext_size0 s1 0 4 (by omega)
  have r2 := ext_size0 s1 4 s1.size (Nat.le_refl _)
  generalize hs2 : s1.extract 4 s1.size = s2 at r2
  have a3 := ext_size0 s2 0 4 (by omega)
  have r3 := ext_size0 s2 4 s2.size (Nat.le_refl _)
  refine ⟨beN (s.extract 0 4), beN (s1.extract 0 4), beN (s2.extract 0 4), s2.extract 4 s2.size, ?_, beN_nonneg _, beN_bound _ 4 a1, beN_nonneg _, beN_bound _ 4 a2, beN_nonneg _, beN_bound _ 4 a3, by omega⟩
  unfold pieceB
  rw [be_beN 4 _ a1, be_beN 4 _ a2, be_beN 4 _ a3, ← split_at s2 4, ← hs2, ← split_at s1 4, ← hs1, ← split_at s 4]
theorem parse_any (s : ByteArray) (hs : s.size ≤ 9223372036854775807) : ∃ a b c d ok, Ctr Try.prog 66 [.string s] [] (fun v L => v = .tuple #[pieceV a b c d, .bool ok] ∧ L = []) := by
  by_cases h : s.size < 12
  · exact ⟨0, 0, 0, emp, false, parseS_c s h⟩
  · obtain ⟨id, n, k, t, rfl, i0, i1, n0, n1, k0, k1, hsz⟩ := form_of s (by omega)
    by_cases ho : okP n k t
    · have := parse_c id n k t i0 i1 n0 n1 k0 k1 (by omega)
      rw [if_pos ho] at this
      exact ⟨_, _, _, _, _, this⟩
    · have := parse_c id n k t i0 i1 n0 n1 k0 k1 (by omega)
      rw [if_neg ho] at this
      exact ⟨_, _, _, _, _, this⟩
/-- A piece's bytes. -/
theorem Piece_c (o : Int × ByteArray) (at' : Int) (h0 : 0 ≤ at') (h1 : at' ≤ o.2.size) (h2 : (o.2.size : Int) ≤ 20000) : Ctr Try.prog 28 [objV o, .int .i64 at'] []
    (fun v L => v = .string (pieceB o.1 o.2.size at' (o.2.extract at'.toNat (min (at' + 500) (o.2.size : Int)).toNat)) ∧ L = []) := by
  obtain ⟨id, dat⟩ := o
  simp only at h1 h2 ⊢
  refine ctr_ Try.func28 rfl Try.ntmps28 rfl fun E R => ?_
  have c1 : decide (at' < 0) = false := decide_eq_false (by omega)
  have c2 : decide (at' > (dat.size : Int)) = false := decide_eq_false (by omega)
  have c3 : decide ((dat.size : Int) > 20000) = false := decide_eq_false (by omega)
  repeat' (first | (apply gCv_; refine w_cvn (k := ?_)) | (apply gBi_; first | refine w_bsE (k := ?_) | refine w_cat (k := ?_)) | (apply cRegD_; refine w_rD 25 (.cons 0 (.cons 3 (.cons 9 (.cons 10 (.cons 13 (.cons 15 (.cons 16 (.cons 17 (.cons 18 (.cons 1 (.cons 4 (.cons 5 (.cons 6 (.cons 14 (.cons 19 (.cons 20 (.cons 21 (.cons 22 (.cons 2 (.cons 7 (.cons 8 (.cons 11 (.cons 12 (.cons 23 (.cons 24 .nil))))))))))))))))))))))))) [blk _ (.cells #[.int .u32 id, .string dat] 29 (0, 0))] [] (h := ?_)) | (apply gCa_; first | refine w_cd (U32_c _) (k := ?_)) | (first | (apply gMv_; refine w_mv (k := ?_)) | (apply gN_; first | refine nxt_ ?_ | refine rend_ ?_ | refine nxtD_ rfl ?_ | refine rendD_ (by kernel_rfl) ?_ | refine nxtT_ rfl ?_ | refine rendT_ (by kernel_rfl) ?_ | refine fk_ ?_ | refine nxtF_ (by kernel_rfl) rfl rfl ?_ ?_ | refine nxtF3_ (by kernel_rfl) rfl rfl rfl ?_ ?_ ?_) | (apply gLd_; first | refine w_ld (k := ?_) | refine w_lA (k := ?_) | refine w_lr (k := ?_) | refine w_lvc (k := ?_) | refine w_lvA (k := ?_) | refine w_l2 (k := ?_)) | (apply gG_; first | refine w_on (k := ?_) | refine w_of (k := ?_) | refine gcaseD_ rfl rfl rfl (fun h h' => ?_) (fun h h' => ?_) | refine gcaseE_ rfl rfl rfl (fun h h' => ?_) (fun h h' => ?_) | refine gcaseN_ rfl rfl rfl (fun h h' => ?_) (fun h h' => ?_) | refine gcase_ rfl rfl rfl (fun h => ?_) (fun h => ?_)) | (apply gSt_; first | refine w_st (k := ?_) | refine w_sA (k := ?_)) | (apply cSeq_; refine seq_ ?_) | (apply cReg_; refine region_ ?_) | (apply cIf_; first | refine ifT_ rfl ?_ | refine ifF_ rfl ?_ | refine ifB_ rfl (by assumption) ?_ | refine ifC_ rfl (by assumption) ?_ | refine ifD_ rfl (fun h => ?_) (fun h => ?_) | refine ifE_ rfl (fun h => ?_) (fun h => ?_) | refine ifN_ rfl (fun h => ?_) (fun h => ?_) | refine if_ rfl (fun h => ?_) (fun h => ?_)) | (apply gBd_; refine w_bd (k := ?_)) | (apply gBs_; refine w_bs (k := fun _ => ?_)) | (apply gBx_; refine w_bx (k := fun _ => ?_)) | (apply gAl_; refine w_al (k := fun _ => ?_)) | (apply gCv_; first | refine w_cv (k := ?_) | refine w_cB (kk := ?_) | refine w_cB2 (kk := ?_)) | (apply gAs_; refine w_as (k := ?_)) | (apply gFa_; refine w_fa (k := ?_)) | (apply gBi_; refine w_bi (k := ?_)) | (apply gPi_; refine w_pi (k := ?_)) | (apply gNc_; refine w_nc (k := ?_)) | (apply gXt_; refine w_xt (k := ?_)) | (apply gCB_; first | refine w_cb (k := ?_) | refine w_ap1 (k' := fun _ _ _ => ?_)) | (apply gUn_; refine w_un (k := ?_)) | (apply gFl_; refine w_fl (k := ?_)) | (apply gSl_; first | refine w_sV (k := ?_) | refine w_sl (k := ?_)) | (apply gIx_; refine w_ix (k := ?_)) | (apply gIa_; refine w_iA (k := ?_)) | (apply gMf_; refine w_mf (k := ?_)) | (apply cSkip_; refine skip_ ?_) | (apply cBlock_; refine block_ ?_) | (apply cBlk_; refine blk_ ?_) | (apply cExit_; refine exit_ rfl ?_)))
  refine e_ret [.tmp 4] (he := ?_)
  unfold pieceB
  rw [ByteArray.append_assoc, ByteArray.append_assoc]
  rfl
theorem PieceE_c (o : Int × ByteArray) (at' : Int) (hsz : o.2.size ≤ 9223372036854775807) (h : at' < 0 ∨ at' > o.2.size ∨ (o.2.size : Int) > 20000) : Ctr Try.prog 28 [objV o, .int .i64 at'] []
    (fun v L => v = .string emp ∧ L = []) := by
  obtain ⟨id, dat⟩ := o
  simp only at h hsz ⊢
  refine ctr_ Try.func28 rfl Try.ntmps28 rfl fun E R => ?_
  by_cases c1 : at' < 0
  · have c1 : decide (at' < 0) = true := decide_eq_true (by omega)
    repeat' (first | (apply gMv_; refine w_mv (k := ?_)) | (apply gN_; first | refine nxt_ ?_ | refine rend_ ?_ | refine nxtD_ rfl ?_ | refine rendD_ (by kernel_rfl) ?_ | refine nxtT_ rfl ?_ | refine rendT_ (by kernel_rfl) ?_ | refine fk_ ?_ | refine nxtF_ (by kernel_rfl) rfl rfl ?_ ?_ | refine nxtF3_ (by kernel_rfl) rfl rfl rfl ?_ ?_ ?_) | (apply gLd_; first | refine w_ld (k := ?_) | refine w_lA (k := ?_) | refine w_lr (k := ?_) | refine w_lvc (k := ?_) | refine w_lvA (k := ?_) | refine w_l2 (k := ?_)) | (apply gG_; first | refine w_on (k := ?_) | refine w_of (k := ?_) | refine gcaseD_ rfl rfl rfl (fun h h' => ?_) (fun h h' => ?_) | refine gcaseE_ rfl rfl rfl (fun h h' => ?_) (fun h h' => ?_) | refine gcaseN_ rfl rfl rfl (fun h h' => ?_) (fun h h' => ?_) | refine gcase_ rfl rfl rfl (fun h => ?_) (fun h => ?_)) | (apply gSt_; first | refine w_st (k := ?_) | refine w_sA (k := ?_)) | (apply cSeq_; refine seq_ ?_) | (apply cReg_; refine region_ ?_) | (apply cIf_; first | refine ifT_ rfl ?_ | refine ifF_ rfl ?_ | refine ifB_ rfl (by assumption) ?_ | refine ifC_ rfl (by assumption) ?_ | refine ifD_ rfl (fun h => ?_) (fun h => ?_) | refine ifE_ rfl (fun h => ?_) (fun h => ?_) | refine ifN_ rfl (fun h => ?_) (fun h => ?_) | refine if_ rfl (fun h => ?_) (fun h => ?_)) | (apply gBd_; refine w_bd (k := ?_)) | (apply gBs_; refine w_bs (k := fun _ => ?_)) | (apply gBx_; refine w_bx (k := fun _ => ?_)) | (apply gAl_; refine w_al (k := fun _ => ?_)) | (apply gCv_; first | refine w_cv (k := ?_) | refine w_cB (kk := ?_) | refine w_cB2 (kk := ?_)) | (apply gAs_; refine w_as (k := ?_)) | (apply gFa_; refine w_fa (k := ?_)) | (apply gBi_; refine w_bi (k := ?_)) | (apply gPi_; refine w_pi (k := ?_)) | (apply gNc_; refine w_nc (k := ?_)) | (apply gXt_; refine w_xt (k := ?_)) | (apply gCB_; first | refine w_cb (k := ?_) | refine w_ap1 (k' := fun _ _ _ => ?_)) | (apply gUn_; refine w_un (k := ?_)) | (apply gFl_; refine w_fl (k := ?_)) | (apply gSl_; first | refine w_sV (k := ?_) | refine w_sl (k := ?_)) | (apply gIx_; refine w_ix (k := ?_)) | (apply gIa_; refine w_iA (k := ?_)) | (apply gMf_; refine w_mf (k := ?_)) | (apply cSkip_; refine skip_ ?_) | (apply cBlock_; refine block_ ?_) | (apply cBlk_; refine blk_ ?_) | (apply cExit_; refine exit_ rfl ?_))
    exact e_ret [.tmp 4]
  · have c1 : decide (at' < 0) = false := decide_eq_false (by omega)
    by_cases c2 : at' > (dat.size : Int)
    · have c2 : decide (at' > (dat.size : Int)) = true := decide_eq_true (by omega)
      repeat' (first | (apply gMv_; refine w_mv (k := ?_)) | (apply gN_; first | refine nxt_ ?_ | refine rend_ ?_ | refine nxtD_ rfl ?_ | refine rendD_ (by kernel_rfl) ?_ | refine nxtT_ rfl ?_ | refine rendT_ (by kernel_rfl) ?_ | refine fk_ ?_ | refine nxtF_ (by kernel_rfl) rfl rfl ?_ ?_ | refine nxtF3_ (by kernel_rfl) rfl rfl rfl ?_ ?_ ?_) | (apply gLd_; first | refine w_ld (k := ?_) | refine w_lA (k := ?_) | refine w_lr (k := ?_) | refine w_lvc (k := ?_) | refine w_lvA (k := ?_) | refine w_l2 (k := ?_)) | (apply gG_; first | refine w_on (k := ?_) | refine w_of (k := ?_) | refine gcaseD_ rfl rfl rfl (fun h h' => ?_) (fun h h' => ?_) | refine gcaseE_ rfl rfl rfl (fun h h' => ?_) (fun h h' => ?_) | refine gcaseN_ rfl rfl rfl (fun h h' => ?_) (fun h h' => ?_) | refine gcase_ rfl rfl rfl (fun h => ?_) (fun h => ?_)) | (apply gSt_; first | refine w_st (k := ?_) | refine w_sA (k := ?_)) | (apply cSeq_; refine seq_ ?_) | (apply cReg_; refine region_ ?_) | (apply cIf_; first | refine ifT_ rfl ?_ | refine ifF_ rfl ?_ | refine ifB_ rfl (by assumption) ?_ | refine ifC_ rfl (by assumption) ?_ | refine ifD_ rfl (fun h => ?_) (fun h => ?_) | refine ifE_ rfl (fun h => ?_) (fun h => ?_) | refine ifN_ rfl (fun h => ?_) (fun h => ?_) | refine if_ rfl (fun h => ?_) (fun h => ?_)) | (apply gBd_; refine w_bd (k := ?_)) | (apply gBs_; refine w_bs (k := fun _ => ?_)) | (apply gBx_; refine w_bx (k := fun _ => ?_)) | (apply gAl_; refine w_al (k := fun _ => ?_)) | (apply gCv_; first | refine w_cv (k := ?_) | refine w_cB (kk := ?_) | refine w_cB2 (kk := ?_)) | (apply gAs_; refine w_as (k := ?_)) | (apply gFa_; refine w_fa (k := ?_)) | (apply gBi_; refine w_bi (k := ?_)) | (apply gPi_; refine w_pi (k := ?_)) | (apply gNc_; refine w_nc (k := ?_)) | (apply gXt_; refine w_xt (k := ?_)) | (apply gCB_; first | refine w_cb (k := ?_) | refine w_ap1 (k' := fun _ _ _ => ?_)) | (apply gUn_; refine w_un (k := ?_)) | (apply gFl_; refine w_fl (k := ?_)) | (apply gSl_; first | refine w_sV (k := ?_) | refine w_sl (k := ?_)) | (apply gIx_; refine w_ix (k := ?_)) | (apply gIa_; refine w_iA (k := ?_)) | (apply gMf_; refine w_mf (k := ?_)) | (apply cSkip_; refine skip_ ?_) | (apply cBlock_; refine block_ ?_) | (apply cBlk_; refine blk_ ?_) | (apply cExit_; refine exit_ rfl ?_))
      exact e_ret [.tmp 4]
    · have c2 : decide (at' > (dat.size : Int)) = false := decide_eq_false (by omega)
      have c3 : decide ((dat.size : Int) > 20000) = true := decide_eq_true (by omega)
      repeat' (first | (apply gMv_; refine w_mv (k := ?_)) | (apply gN_; first | refine nxt_ ?_ | refine rend_ ?_ | refine nxtD_ rfl ?_ | refine rendD_ (by kernel_rfl) ?_ | refine nxtT_ rfl ?_ | refine rendT_ (by kernel_rfl) ?_ | refine fk_ ?_ | refine nxtF_ (by kernel_rfl) rfl rfl ?_ ?_ | refine nxtF3_ (by kernel_rfl) rfl rfl rfl ?_ ?_ ?_) | (apply gLd_; first | refine w_ld (k := ?_) | refine w_lA (k := ?_) | refine w_lr (k := ?_) | refine w_lvc (k := ?_) | refine w_lvA (k := ?_) | refine w_l2 (k := ?_)) | (apply gG_; first | refine w_on (k := ?_) | refine w_of (k := ?_) | refine gcaseD_ rfl rfl rfl (fun h h' => ?_) (fun h h' => ?_) | refine gcaseE_ rfl rfl rfl (fun h h' => ?_) (fun h h' => ?_) | refine gcaseN_ rfl rfl rfl (fun h h' => ?_) (fun h h' => ?_) | refine gcase_ rfl rfl rfl (fun h => ?_) (fun h => ?_)) | (apply gSt_; first | refine w_st (k := ?_) | refine w_sA (k := ?_)) | (apply cSeq_; refine seq_ ?_) | (apply cReg_; refine region_ ?_) | (apply cIf_; first | refine ifT_ rfl ?_ | refine ifF_ rfl ?_ | refine ifB_ rfl (by assumption) ?_ | refine ifC_ rfl (by assumption) ?_ | refine ifD_ rfl (fun h => ?_) (fun h => ?_) | refine ifE_ rfl (fun h => ?_) (fun h => ?_) | refine ifN_ rfl (fun h => ?_) (fun h => ?_) | refine if_ rfl (fun h => ?_) (fun h => ?_)) | (apply gBd_; refine w_bd (k := ?_)) | (apply gBs_; refine w_bs (k := fun _ => ?_)) | (apply gBx_; refine w_bx (k := fun _ => ?_)) | (apply gAl_; refine w_al (k := fun _ => ?_)) | (apply gCv_; first | refine w_cv (k := ?_) | refine w_cB (kk := ?_) | refine w_cB2 (kk := ?_)) | (apply gAs_; refine w_as (k := ?_)) | (apply gFa_; refine w_fa (k := ?_)) | (apply gBi_; refine w_bi (k := ?_)) | (apply gPi_; refine w_pi (k := ?_)) | (apply gNc_; refine w_nc (k := ?_)) | (apply gXt_; refine w_xt (k := ?_)) | (apply gCB_; first | refine w_cb (k := ?_) | refine w_ap1 (k' := fun _ _ _ => ?_)) | (apply gUn_; refine w_un (k := ?_)) | (apply gFl_; refine w_fl (k := ?_)) | (apply gSl_; first | refine w_sV (k := ?_) | refine w_sl (k := ?_)) | (apply gIx_; refine w_ix (k := ?_)) | (apply gIa_; refine w_iA (k := ?_)) | (apply gMf_; refine w_mf (k := ?_)) | (apply cSkip_; refine skip_ ?_) | (apply cBlock_; refine block_ ?_) | (apply cBlk_; refine blk_ ?_) | (apply cExit_; refine exit_ rfl ?_))
      exact e_ret [.tmp 4]
/-! ### A receiver that holds nothing -/
def rcv0 (r : Nat) : List SA := [rcv r none 0 0, vec none 0 0 129 1 [], partsRO []]
section
attribute [local semireducible] Sat
theorem ctr_rcv {f : FuncId} {args : List Value} {r : Nat} {Post : Value → List SA → Prop} (h : Ctr Try.prog f args (recv r none 0 []) Post) : Ctr Try.prog f args [rcv r none 0 0] Post :=
  ctr_pre (fun E R w hw => by
    have h1 : Sat E (partsRO [] :: vec none 0 0 129 1 [] :: ([rcv r none 0 0] ++ [R])) w := parts_nil (toNil hw)
    exact h1.sel (by unfold recv; ((repeat (first | exact .nil | ((first | apply Sel.cons | apply Cut.cons); repeat (first | exact .head | apply Pl.tail)))); first | done | fail))) h
end
theorem okP_new (n k : Int) (t : ByteArray) (k0 : 0 ≤ k) (h : okP n k t) (hn : (t.size : Int) ≥ n) : n ≤ 500 ∧ k = 0 := by
  unfold okP at h
  omega
theorem awake40_c : Ctr Try.prog 18 [] [] (fun v L => v = .bool true ∧ L = []) := by
  have hP : Ctr Try.prog 28 [objV (7, ⟨#[97, 98, 99]⟩), .int .i64 0] [] (fun v L => v = .string (pieceB 7 3 0 ⟨#[97, 98, 99]⟩) ∧ L = []) := Piece_c (7, ⟨#[97, 98, 99]⟩) 0 (by omega) (by decide) (by decide)
  have hok : okP 3 0 ⟨#[97, 98, 99]⟩ := by decide
  have hp := parse_c 7 3 0 ⟨#[97, 98, 99]⟩ (by omega) (by omega) (by omega) (by omega) (by omega) (by omega) (by decide)
  rw [if_pos hok, decide_eq_true hok] at hp
  have hT : ∀ r, Ctr Try.prog 17 [ptr r, .string (pieceB 7 3 0 ⟨#[97, 98, 99]⟩)] [rcv r none 0 0] (fun v L => ∃ q : Option Addr × Nat, v = .tuple #[objV (7, ⟨#[97, 98, 99]⟩), .bool true, .int .i64 0] ∧ L = [rcv r q.1 0 q.2]) := fun r => by
    refine ctr_post (ctr_rcv (TakeWhole_c r none 0 [] 7 3 0 ⟨#[97, 98, 99]⟩ _ (by decide) (by simp) (by decide) (by decide) (by decide) rfl hp)) ?_
    rintro v L ⟨p', c', rfl, rfl⟩
    exact ⟨_, ⟨(p', c'), rfl, rfl⟩, fun E w R hw => hw.sel (by ((repeat (first | exact .nil | ((first | apply Sel.cons | apply Cut.cons); repeat (first | exact .head | apply Pl.tail)))); first | done | fail))⟩
  refine ctr_ Try.func18 rfl Try.ntmps18 rfl fun E R => ?_
  have hE : ((⟨#[97, 98, 99]⟩ : ByteArray).toList == (⟨#[97, 98, 99]⟩ : ByteArray).toList) = true := by simp
  repeat' (first | (apply gCa_; first | refine w_cg (NewR_c) (k := fun _ => ?_) | refine w_cd (hP) (k := ?_) | refine w_cg (hT _) (k := fun _ => ?_)) | (first | (apply gMv_; refine w_mv (k := ?_)) | (apply gN_; first | refine nxt_ ?_ | refine rend_ ?_ | refine nxtD_ rfl ?_ | refine rendD_ (by kernel_rfl) ?_ | refine nxtT_ rfl ?_ | refine rendT_ (by kernel_rfl) ?_ | refine fk_ ?_ | refine nxtF_ (by kernel_rfl) rfl rfl ?_ ?_ | refine nxtF3_ (by kernel_rfl) rfl rfl rfl ?_ ?_ ?_) | (apply gLd_; first | refine w_ld (k := ?_) | refine w_lA (k := ?_) | refine w_lr (k := ?_) | refine w_lvc (k := ?_) | refine w_lvA (k := ?_) | refine w_l2 (k := ?_)) | (apply gG_; first | refine w_on (k := ?_) | refine w_of (k := ?_) | refine gcaseD_ rfl rfl rfl (fun h h' => ?_) (fun h h' => ?_) | refine gcaseE_ rfl rfl rfl (fun h h' => ?_) (fun h h' => ?_) | refine gcaseN_ rfl rfl rfl (fun h h' => ?_) (fun h h' => ?_) | refine gcase_ rfl rfl rfl (fun h => ?_) (fun h => ?_)) | (apply gSt_; first | refine w_st (k := ?_) | refine w_sA (k := ?_)) | (apply cSeq_; refine seq_ ?_) | (apply cReg_; refine region_ ?_) | (apply cIf_; first | refine ifT_ rfl ?_ | refine ifF_ rfl ?_ | refine ifB_ rfl (by assumption) ?_ | refine ifC_ rfl (by assumption) ?_ | refine ifD_ rfl (fun h => ?_) (fun h => ?_) | refine ifE_ rfl (fun h => ?_) (fun h => ?_) | refine ifN_ rfl (fun h => ?_) (fun h => ?_) | refine if_ rfl (fun h => ?_) (fun h => ?_)) | (apply gBd_; refine w_bd (k := ?_)) | (apply gBs_; refine w_bs (k := fun _ => ?_)) | (apply gBx_; refine w_bx (k := fun _ => ?_)) | (apply gAl_; refine w_al (k := fun _ => ?_)) | (apply gCv_; first | refine w_cv (k := ?_) | refine w_cB (kk := ?_) | refine w_cB2 (kk := ?_)) | (apply gAs_; refine w_as (k := ?_)) | (apply gFa_; refine w_fa (k := ?_)) | (apply gBi_; refine w_bi (k := ?_)) | (apply gPi_; refine w_pi (k := ?_)) | (apply gNc_; refine w_nc (k := ?_)) | (apply gXt_; refine w_xt (k := ?_)) | (apply gCB_; first | refine w_cb (k := ?_) | refine w_ap1 (k' := fun _ _ _ => ?_)) | (apply gUn_; refine w_un (k := ?_)) | (apply gFl_; refine w_fl (k := ?_)) | (apply gSl_; first | refine w_sV (k := ?_) | refine w_sl (k := ?_)) | (apply gIx_; refine w_ix (k := ?_)) | (apply gIa_; refine w_iA (k := ?_)) | (apply gMf_; refine w_mf (k := ?_)) | (apply cSkip_; refine skip_ ?_) | (apply cBlock_; refine block_ ?_) | (apply cBlk_; refine blk_ ?_) | (apply cExit_; refine exit_ rfl ?_)))
  exact e_ret [.tmp 0]
end Go.Proofs.Ytpghbkkjdfaflaa
