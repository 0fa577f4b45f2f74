/- Bytes that are read back; small numbers; rows that came in. -/
import Derived.Test.YtpghbkkjdfaflaaRec
namespace Go.SL
open Go.RowKit
section
variable {P : Program} {E : World} {n : Nat} {env : En} {d : Nat} {ty : TypeId} {ps : String} {af : Array Edge} {gd : Option (Nat × Bool)} {ops : Array Oper} {Q : Exit → Act → World → Prop} {r : Rs} {L M : List SA}
/-- Strings put together. -/
theorem w_cat {t t' : TypeId} {v : Value} {x y : Operand} (h : Val P n ⟨some d, .binOp .add t x y t', ty, ps, af, gd⟩ env v := by exact bcat rfl rfl (by simp only [ByteArray.size_append, be_size, byt_size, ByteArray.size_extract, List.length_cons, List.length_nil]; omega))
    (hd : Nat.blt d n = true := by exact rfl) (hok : okB ops 0 r = true := by kernel_rfl) (k : WN P E n ops Q r ((d, v) :: env) L) : WB P E n ops Q ⟨some d, .binOp .add t x y t', ty, ps, af, gd⟩ true r env L := v_ h hd hok k
end
/-- A number's bytes, out of the number that bytes say. -/
theorem be_beN : ∀ (k : Nat) (a : ByteArray), a.size = k → be k (beN a) = a
  | 0, a, h => by
    apply ByteArray.ext
    have : a.data = #[] := Array.eq_empty_of_size_eq_zero h
    simp [be, byt, this]
  | k + 1, a, h => by
    have hl : a.data.toList.length = k + 1 := by rw [Array.length_toList]; exact h
    have hne : a.data.toList ≠ [] := fun e => by rw [e] at hl; simp at hl
    have e := List.dropLast_concat_getLast hne
    let b : ByteArray := ⟨a.data.toList.dropLast.toArray⟩
    have hb : b.size = k := by show (a.data.toList.dropLast.toArray).size = k; simp [hl]
    have e1 : beN a = beN b * 256 + ((a.data.toList.getLast hne).toNat : Int) := by
      unfold beN
      show (beL a.data.toList : Int) = (beL a.data.toList.dropLast : Int) * 256 + _
      conv => lhs; rw [← e, beL_snoc]
      omega
    have hlt := (a.data.toList.getLast hne).toNat_lt
    have e2 : beN a / 256 = beN b := by rw [e1]; omega
    have e3 : beN a % 256 = ((a.data.toList.getLast hne).toNat : Int) := by rw [e1]; omega
    rw [be, e2, e3, be_beN k b hb]
    apply ByteArray.ext
    apply Array.ext'
    rw [ByteArray.data_append, Array.toList_append, byt_one]
    show a.data.toList.dropLast ++ _ = a.data.toList
    conv => rhs; rw [← e]
    simp
theorem split_at (s : ByteArray) (k : Nat) : s = s.extract 0 k ++ s.extract k s.size := by
  apply ByteArray.ext
  rw [ByteArray.data_append, ByteArray.data_extract, ByteArray.data_extract]
  apply Array.ext'
  rw [Array.toList_append, Array.toList_extract, Array.toList_extract]
  simp only [List.extract_eq_take_drop, List.drop_zero, Nat.sub_zero]
  have : List.take (s.size - k) (List.drop k s.data.toList) = List.drop k s.data.toList := List.take_of_length_le (by simp)
  rw [this, List.take_append_drop]
theorem ext_size0 (s : ByteArray) (i j : Nat) (h : j ≤ s.size) : (s.extract i j).size = j - i := by
  rw [ByteArray.size_extract]
  omega
theorem beN_nonneg (s : ByteArray) : 0 ≤ beN s := Int.natCast_nonneg _
theorem beN_bound (s : ByteArray) (k : Nat) (h : s.size = k) : beN s < 256 ^ k := by
  have := beL_lt k s.data.toList (by rw [Array.length_toList]; exact h)
  unfold beN
  have h2 := Int.ofNat_lt.2 this
  simpa using h2
end Go.SL
namespace Go.Proofs.Ytpghbkkjdfaflaa
open Go.SL
attribute [local irreducible] Val ValS Does WN WB WK Sat Ctr Wn Tfin
set_option linter.unusedVariables false
set_option linter.unusedSimpArgs false
open Go.RowKit
theorem rdTake_app (k : Nat) (a b : ByteArray) (h : a.size = k) : rdTake (a ++ b) 0 k = (a, b, 0) := by
  subst h
  unfold rdTake
  have e1 : (a ++ b).size = a.size + b.size := ByteArray.size_append
  rw [if_neg (by simp), if_neg (by omega), if_neg (by omega)]
  have e2 : ((a.size : Nat) : Int).toNat = a.size := by omega
  rw [e2, ext_left, ext_right]
theorem append_emp (a : ByteArray) : a ++ emp = a := by
  apply ByteArray.ext
  simp [emp, ByteArray.data_append]
theorem rdTake_all (k : Nat) (a : ByteArray) (h : a.size = k) : rdTake a 0 k = (a, emp, 0) := by
  have := rdTake_app k a emp h
  rwa [append_emp] at this
theorem emp_size : emp.size = 0 := rfl
theorem and_low (x : Int) (m : Nat) (hm : m < 100000) : 0 ≤ bits .and .i64 x (m : Int) ∧ bits .and .i64 x (m : Int) ≤ m := by
  have e0 : bits .and .i64 x (m : Int) = IntKind.i64.wrap (((BitVec.ofInt 64 x) &&& BitVec.ofInt 64 (m : Int)).toNat : Int) := rfl
  rw [e0]
  have e1 : (BitVec.ofInt 64 (m : Int)).toNat = m := by
    rw [BitVec.ofInt_natCast, BitVec.toNat_ofNat]
    exact Nat.mod_eq_of_lt (Nat.lt_of_lt_of_le hm (by decide))
  have h : ((BitVec.ofInt 64 x) &&& BitVec.ofInt 64 (m : Int)).toNat ≤ m := by
    rw [BitVec.toNat_and, e1]
    exact Nat.and_le_right
  generalize ((BitVec.ofInt 64 x) &&& BitVec.ofInt 64 (m : Int)).toNat = r at h
  rw [wrap_i64 _ (by omega) (by omega)]
  omega
theorem and3 (x : Int) : 0 ≤ bits .and .i64 x 3 ∧ bits .and .i64 x 3 ≤ 3 := and_low x 3 (by omega)
theorem and1 (x : Int) : bits .and .i64 x 1 = 0 ∨ bits .and .i64 x 1 = 1 := by
  have : 0 ≤ bits .and .i64 x 1 ∧ bits .and .i64 x 1 ≤ 1 := and_low x 1 (by omega)
  omega
/-- A row of numbers that came in. -/
def RowIn (w : World) (a : Option Addr) (len : Nat) (zs : List Int) : Prop := len ≤ zs.length ∧ ∀ i : Nat, i < zs.length → ∃ x, a = some x ∧ w.cell? (x.add (i * 1)) = some (.int .i64 (zs.getD i 0))
/-- The reader's rest. -/
theorem Left_c (g : Nat) (s : ByteArray) (e : Int) : Ctr Try.prog 132 [ptr g] [rdr g s e] (fun v L => v = .int .i64 (if e = 0 then (s.size : Int) else 0) ∧ L = [rdr g s e]) := by
  refine ctr_ Try.func132 rfl Try.ntmps132 rfl fun E R => ?_
  repeat' (first | (apply gCa_; first | refine w_cd (Err_c _ _ _) (k := ?_)) | (first | (apply gMv_; refine w_mv (k := ?_)) | (apply gN_; first | refine nxt_ ?_ | refine rend_ ?_ | refine nxtD_ rfl ?_ | refine rendD_ (by kernel_rfl) ?_ | refine nxtT_ rfl ?_ | refine rendT_ (by kernel_rfl) ?_ | refine fk_ ?_ | refine nxtF_ (by kernel_rfl) rfl rfl ?_ ?_ | refine nxtF3_ (by kernel_rfl) rfl rfl rfl ?_ ?_ ?_) | (apply gLd_; first | refine w_ld (k := ?_) | refine w_lA (k := ?_) | refine w_lr (k := ?_) | refine w_lvc (k := ?_) | refine w_lvA (k := ?_) | refine w_l2 (k := ?_)) | (apply gG_; first | refine w_on (k := ?_) | refine w_of (k := ?_) | refine gcaseD_ rfl rfl rfl (fun h h' => ?_) (fun h h' => ?_) | refine gcaseE_ rfl rfl rfl (fun h h' => ?_) (fun h h' => ?_) | refine gcaseN_ rfl rfl rfl (fun h h' => ?_) (fun h h' => ?_) | refine gcase_ rfl rfl rfl (fun h => ?_) (fun h => ?_)) | (apply gSt_; first | refine w_st (k := ?_) | refine w_sA (k := ?_)) | (apply cSeq_; refine seq_ ?_) | (apply cReg_; refine region_ ?_) | (apply cIf_; first | refine ifT_ rfl ?_ | refine ifF_ rfl ?_ | refine ifB_ rfl (by assumption) ?_ | refine ifC_ rfl (by assumption) ?_ | refine ifD_ rfl (fun h => ?_) (fun h => ?_) | refine ifE_ rfl (fun h => ?_) (fun h => ?_) | refine ifN_ rfl (fun h => ?_) (fun h => ?_) | refine if_ rfl (fun h => ?_) (fun h => ?_)) | (apply gBd_; refine w_bd (k := ?_)) | (apply gBs_; refine w_bs (k := fun _ => ?_)) | (apply gBx_; refine w_bx (k := fun _ => ?_)) | (apply gAl_; refine w_al (k := fun _ => ?_)) | (apply gCv_; first | refine w_cv (k := ?_) | refine w_cB (kk := ?_) | refine w_cB2 (kk := ?_)) | (apply gAs_; refine w_as (k := ?_)) | (apply gFa_; refine w_fa (k := ?_)) | (apply gBi_; refine w_bi (k := ?_)) | (apply gPi_; refine w_pi (k := ?_)) | (apply gNc_; refine w_nc (k := ?_)) | (apply gXt_; refine w_xt (k := ?_)) | (apply gCB_; first | refine w_cb (k := ?_) | refine w_ap1 (k' := fun _ _ _ => ?_)) | (apply gUn_; refine w_un (k := ?_)) | (apply gFl_; refine w_fl (k := ?_)) | (apply gSl_; first | refine w_sV (k := ?_) | refine w_sl (k := ?_)) | (apply gIx_; refine w_ix (k := ?_)) | (apply gIa_; refine w_iA (k := ?_)) | (apply gMf_; refine w_mf (k := ?_)) | (apply cSkip_; refine skip_ ?_) | (apply cBlock_; refine block_ ?_) | (apply cBlk_; refine blk_ ?_) | (apply cExit_; refine exit_ rfl ?_)))
  all_goals first
    | (rw [if_pos (by assumption)]; exact e_ret [.tmp 2])
    | (rw [if_neg (by assumption)]; exact e_ret [.tmp 2])
theorem Rest_c (g : Nat) (s : ByteArray) : Ctr Try.prog 112 [ptr g] [rdr g s 0] (fun v L => v = .string s ∧ L = [rdr g emp 0]) := by
  have hL := Left_c g s 0
  rw [if_pos rfl] at hL
  have hT := Take_c g s 0 (s.size : Int)
  have e1 : rdTake s 0 (s.size : Int) = (s, emp, 0) := rdTake_all s.size s rfl
  rw [e1] at hT
  refine ctr_ Try.func112 rfl Try.ntmps112 rfl fun E R => ?_
  repeat' (first | (apply gCa_; first | refine w_cd (hL) (k := ?_) | refine w_cd (hT) (k := ?_)) | (first | (apply gMv_; refine w_mv (k := ?_)) | (apply gN_; first | refine nxt_ ?_ | refine rend_ ?_ | refine nxtD_ rfl ?_ | refine rendD_ (by kernel_rfl) ?_ | refine nxtT_ rfl ?_ | refine rendT_ (by kernel_rfl) ?_ | refine fk_ ?_ | refine nxtF_ (by kernel_rfl) rfl rfl ?_ ?_ | refine nxtF3_ (by kernel_rfl) rfl rfl rfl ?_ ?_ ?_) | (apply gLd_; first | refine w_ld (k := ?_) | refine w_lA (k := ?_) | refine w_lr (k := ?_) | refine w_lvc (k := ?_) | refine w_lvA (k := ?_) | refine w_l2 (k := ?_)) | (apply gG_; first | refine w_on (k := ?_) | refine w_of (k := ?_) | refine gcaseD_ rfl rfl rfl (fun h h' => ?_) (fun h h' => ?_) | refine gcaseE_ rfl rfl rfl (fun h h' => ?_) (fun h h' => ?_) | refine gcaseN_ rfl rfl rfl (fun h h' => ?_) (fun h h' => ?_) | refine gcase_ rfl rfl rfl (fun h => ?_) (fun h => ?_)) | (apply gSt_; first | refine w_st (k := ?_) | refine w_sA (k := ?_)) | (apply cSeq_; refine seq_ ?_) | (apply cReg_; refine region_ ?_) | (apply cIf_; first | refine ifT_ rfl ?_ | refine ifF_ rfl ?_ | refine ifB_ rfl (by assumption) ?_ | refine ifC_ rfl (by assumption) ?_ | refine ifD_ rfl (fun h => ?_) (fun h => ?_) | refine ifE_ rfl (fun h => ?_) (fun h => ?_) | refine ifN_ rfl (fun h => ?_) (fun h => ?_) | refine if_ rfl (fun h => ?_) (fun h => ?_)) | (apply gBd_; refine w_bd (k := ?_)) | (apply gBs_; refine w_bs (k := fun _ => ?_)) | (apply gBx_; refine w_bx (k := fun _ => ?_)) | (apply gAl_; refine w_al (k := fun _ => ?_)) | (apply gCv_; first | refine w_cv (k := ?_) | refine w_cB (kk := ?_) | refine w_cB2 (kk := ?_)) | (apply gAs_; refine w_as (k := ?_)) | (apply gFa_; refine w_fa (k := ?_)) | (apply gBi_; refine w_bi (k := ?_)) | (apply gPi_; refine w_pi (k := ?_)) | (apply gNc_; refine w_nc (k := ?_)) | (apply gXt_; refine w_xt (k := ?_)) | (apply gCB_; first | refine w_cb (k := ?_) | refine w_ap1 (k' := fun _ _ _ => ?_)) | (apply gUn_; refine w_un (k := ?_)) | (apply gFl_; refine w_fl (k := ?_)) | (apply gSl_; first | refine w_sV (k := ?_) | refine w_sl (k := ?_)) | (apply gIx_; refine w_ix (k := ?_)) | (apply gIa_; refine w_iA (k := ?_)) | (apply gMf_; refine w_mf (k := ?_)) | (apply cSkip_; refine skip_ ?_) | (apply cBlock_; refine block_ ?_) | (apply cBlk_; refine blk_ ?_) | (apply cExit_; refine exit_ rfl ?_)))
  exact e_ret [.tmp 2]
theorem RestE_c (g : Nat) (s : ByteArray) (e : Int) (he : e ≠ 0) : Ctr Try.prog 112 [ptr g] [rdr g s e] (fun v L => v = .string emp ∧ L = [rdr g s e]) := by
  have hL := Left_c g s e
  rw [if_neg he] at hL
  have hT := Take_c g s e 0
  have e1 : rdTake s e 0 = (emp, s, e) := by unfold rdTake; rw [if_pos he]
  rw [e1] at hT
  refine ctr_ Try.func112 rfl Try.ntmps112 rfl fun E R => ?_
  repeat' (first | (apply gCa_; first | refine w_cd (hL) (k := ?_) | refine w_cd (hT) (k := ?_)) | (first | (apply gMv_; refine w_mv (k := ?_)) | (apply gN_; first | refine nxt_ ?_ | refine rend_ ?_ | refine nxtD_ rfl ?_ | refine rendD_ (by kernel_rfl) ?_ | refine nxtT_ rfl ?_ | refine rendT_ (by kernel_rfl) ?_ | refine fk_ ?_ | refine nxtF_ (by kernel_rfl) rfl rfl ?_ ?_ | refine nxtF3_ (by kernel_rfl) rfl rfl rfl ?_ ?_ ?_) | (apply gLd_; first | refine w_ld (k := ?_) | refine w_lA (k := ?_) | refine w_lr (k := ?_) | refine w_lvc (k := ?_) | refine w_lvA (k := ?_) | refine w_l2 (k := ?_)) | (apply gG_; first | refine w_on (k := ?_) | refine w_of (k := ?_) | refine gcaseD_ rfl rfl rfl (fun h h' => ?_) (fun h h' => ?_) | refine gcaseE_ rfl rfl rfl (fun h h' => ?_) (fun h h' => ?_) | refine gcaseN_ rfl rfl rfl (fun h h' => ?_) (fun h h' => ?_) | refine gcase_ rfl rfl rfl (fun h => ?_) (fun h => ?_)) | (apply gSt_; first | refine w_st (k := ?_) | refine w_sA (k := ?_)) | (apply cSeq_; refine seq_ ?_) | (apply cReg_; refine region_ ?_) | (apply cIf_; first | refine ifT_ rfl ?_ | refine ifF_ rfl ?_ | refine ifB_ rfl (by assumption) ?_ | refine ifC_ rfl (by assumption) ?_ | refine ifD_ rfl (fun h => ?_) (fun h => ?_) | refine ifE_ rfl (fun h => ?_) (fun h => ?_) | refine ifN_ rfl (fun h => ?_) (fun h => ?_) | refine if_ rfl (fun h => ?_) (fun h => ?_)) | (apply gBd_; refine w_bd (k := ?_)) | (apply gBs_; refine w_bs (k := fun _ => ?_)) | (apply gBx_; refine w_bx (k := fun _ => ?_)) | (apply gAl_; refine w_al (k := fun _ => ?_)) | (apply gCv_; first | refine w_cv (k := ?_) | refine w_cB (kk := ?_) | refine w_cB2 (kk := ?_)) | (apply gAs_; refine w_as (k := ?_)) | (apply gFa_; refine w_fa (k := ?_)) | (apply gBi_; refine w_bi (k := ?_)) | (apply gPi_; refine w_pi (k := ?_)) | (apply gNc_; refine w_nc (k := ?_)) | (apply gXt_; refine w_xt (k := ?_)) | (apply gCB_; first | refine w_cb (k := ?_) | refine w_ap1 (k' := fun _ _ _ => ?_)) | (apply gUn_; refine w_un (k := ?_)) | (apply gFl_; refine w_fl (k := ?_)) | (apply gSl_; first | refine w_sV (k := ?_) | refine w_sl (k := ?_)) | (apply gIx_; refine w_ix (k := ?_)) | (apply gIa_; refine w_iA (k := ?_)) | (apply gMf_; refine w_mf (k := ?_)) | (apply cSkip_; refine skip_ ?_) | (apply cBlock_; refine block_ ?_) | (apply cBlk_; refine blk_ ?_) | (apply cExit_; refine exit_ rfl ?_)))
  exact e_ret [.tmp 2]
end Go.Proofs.Ytpghbkkjdfaflaa
