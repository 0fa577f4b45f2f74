/- Parameters: the first one of a type (param.Find). -/
import Derived.Test.YtpghbkkjdfaflaaRec2
import Derived.Test.YtpghbkkjdfaflaaSe
namespace Go.Proofs.Ytpghbkkjdfaflaa
open Go.SL
attribute [local irreducible] Val ValS Does WN WB WK Sat Ctr Wn Tfin
set_option linter.unusedVariables false
set_option linter.unusedSimpArgs false
open Go.RowKit
def parRow (p : Int × ByteArray) : List Value := [.int .i64 p.1, .string p.2]
theorem parRow_len (p : Int × ByteArray) : (parRow p).length = 2 := rfl
/-- Parameters that lie in block g, for good. -/
def parsIn (g : Nat) (l : List (Int × ByteArray)) : SA := ro g (.cells (rowsL parRow l).toArray 41 (0, 0))
def slc (g n c : Nat) : Value := .slice (some ⟨g, 0, none⟩) n c
def parFind (l : List (Int × ByteArray)) (typ : Int) : (Int × ByteArray) × Bool := match l.find? (fun p => decide (p.1 = typ)) with
  | some p => (p, true)
  | none => ((0, emp), false)
theorem parFind_none (l : List (Int × ByteArray)) (typ : Int) (h : ∀ (j : Nat) (p : Int × ByteArray), l[j]? = some p → p.1 ≠ typ) : parFind l typ = ((0, emp), false) := by
  unfold parFind
  have : l.find? (fun p => decide (p.1 = typ)) = none := by
    rw [List.find?_eq_none]
    intro p hp
    obtain ⟨j, hj, e⟩ := List.getElem_of_mem hp
    have := h j p (by rw [List.getElem?_eq_getElem hj, e])
    simpa using this
  rw [this]
theorem parFind_some : ∀ (l : List (Int × ByteArray)) (typ : Int) (i : Nat) (q : Int × ByteArray), l[i]? = some q → q.1 = typ → (∀ (j : Nat) (p : Int × ByteArray), j < i → l[j]? = some p → p.1 ≠ typ) → parFind l typ = (q, true)
  | [], typ, i, q, hi, _, _ => by simp at hi
  | a :: l, typ, 0, q, hi, hq, h => by
    simp only [List.getElem?_cons_zero, Option.some.injEq] at hi
    subst hi
    unfold parFind
    rw [List.find?_cons_of_pos (by simpa using hq)]
  | a :: l, typ, i + 1, q, hi, hq, h => by
    have h0 : a.1 ≠ typ := h 0 a (by omega) rfl
    have ih := parFind_some l typ i q (by simpa using hi) hq (fun j p hj hp => h (j + 1) p (by omega) (by simpa using hp))
    unfold parFind at ih ⊢
    rw [List.find?_cons_of_neg (by simpa using h0)]
    exact ih
set_option maxHeartbeats 1000000 in
theorem Find_c (g c : Nat) (l : List (Int × ByteArray)) (typ : Int) (hl : l.length < 9223372036854775807) : Ctr Try.prog 73 [slc g l.length c, .int .i64 typ] [parsIn g l]
    (fun v L => v = .tuple #[par (parFind l typ).1.1 (parFind l typ).1.2, .bool (parFind l typ).2] ∧ L = [parsIn g l]) := by
  refine ctr_ Try.func73 rfl Try.ntmps73 rfl fun E R => ?_
  repeat' (first | (apply gMv_; refine w_mv (k := ?_)) | (apply gN_; first | refine nxt_ ?_ | refine rend_ ?_ | refine nxtD_ rfl ?_ | refine rendD_ (by kernel_rfl) ?_ | refine nxtT_ rfl ?_ | refine rendT_ (by kernel_rfl) ?_ | refine fk_ ?_ | refine nxtF_ (by kernel_rfl) rfl rfl ?_ ?_ | refine nxtF3_ (by kernel_rfl) rfl rfl rfl ?_ ?_ ?_) | (apply gLd_; first | refine w_ld (k := ?_) | refine w_lA (k := ?_) | refine w_lr (k := ?_) | refine w_l2 (k := ?_)) | (apply gG_; first | refine w_on (k := ?_) | refine w_of (k := ?_) | refine gcaseD_ rfl rfl rfl (fun h h' => ?_) (fun h h' => ?_) | refine gcaseE_ rfl rfl rfl (fun h h' => ?_) (fun h h' => ?_) | refine gcaseN_ rfl rfl rfl (fun h h' => ?_) (fun h h' => ?_) | refine gcase_ rfl rfl rfl (fun h => ?_) (fun h => ?_)) | (apply gSt_; first | refine w_st (k := ?_) | refine w_sA (k := ?_)) | (apply cSeq_; refine seq_ ?_) | (apply cReg_; refine region_ ?_) | (apply cIf_; first | refine ifT_ rfl ?_ | refine ifF_ rfl ?_ | refine ifB_ rfl (by assumption) ?_ | refine ifC_ rfl (by assumption) ?_ | refine ifD_ rfl (fun h => ?_) (fun h => ?_) | refine ifE_ rfl (fun h => ?_) (fun h => ?_) | refine ifN_ rfl (fun h => ?_) (fun h => ?_) | refine if_ rfl (fun h => ?_) (fun h => ?_)) | (apply gBd_; refine w_bd (k := ?_)) | (apply gBs_; refine w_bs (k := fun _ => ?_)) | (apply gBx_; refine w_bx (k := fun _ => ?_)) | (apply gAl_; refine w_al (k := fun _ => ?_)) | (apply gCv_; first | refine w_cv (k := ?_) | refine w_cB (kk := ?_) | refine w_cB2 (kk := ?_)) | (apply gAs_; refine w_as (k := ?_)) | (apply gFa_; refine w_fa (k := ?_)) | (apply gBi_; refine w_bi (k := ?_)) | (apply gPi_; refine w_pi (k := ?_)) | (apply gNc_; refine w_nc (k := ?_)) | (apply gXt_; refine w_xt (k := ?_)) | (apply gCB_; refine w_cb (k := ?_)) | (apply gUn_; refine w_un (k := ?_)) | (apply gFl_; refine w_fl (k := ?_)) | (apply gSl_; refine w_sl (k := ?_)) | (apply gIx_; refine w_ix (k := ?_)) | (apply gIa_; refine w_ia (k := ?_)) | (apply gMf_; refine w_mf (k := ?_)) | (apply cSkip_; refine skip_ ?_) | (apply cBlock_; refine block_ ?_) | (apply cBlk_; refine blk_ ?_) | (apply cExit_; refine exit_ rfl ?_))
  rename_i x
  refine loop_ (M := [parsIn g l, blk x (.cells #[.int .i64 0, .string emp] 41), R])
    (fun m env L => ∃ i : Nat, m = l.length - i ∧ i ≤ l.length ∧ (∀ (j : Nat) (p : Int × ByteArray), j < i → l[j]? = some p → p.1 ≠ typ) ∧
      env = [(1, .int .i64 typ), (4, .pointer (some ⟨x, 0, none⟩)), (5, .bool false), (8, slc g l.length c), (9, .int .i64 l.length), (10, .int .i64 i)] ∧
      L = [parsIn g l, blk x (.cells #[.int .i64 0, .string emp] 41), R]) l.length [1, 4, 5, 8, 9, 10] rfl (by (repeat (first | exact .nil | ((first | apply Sel.cons | apply Cut.cons); repeat (first | exact .head | apply Pl.tail))))) ⟨0, rfl, Nat.zero_le _, fun j p hj => absurd hj (Nat.not_lt_zero j), rfl, rfl⟩ ?_
  rintro m env L ⟨i, hm, hi, hno, rfl, rfl⟩
  by_cases hlt : i < l.length
  · obtain ⟨q, hq⟩ : ∃ q, l[i]? = some q := ⟨_, List.getElem?_eq_getElem hlt⟩
    have hlt' : (i : Int) < (l.length : Int) := by omega
    repeat' (first | (apply gLd_; refine ldR_ parRow_len rfl .head at0 hq rfl (by kernel_rfl) ?_) | (first | (apply gMv_; refine w_mv (k := ?_)) | (apply gN_; first | refine nxt_ ?_ | refine rend_ ?_ | refine nxtD_ rfl ?_ | refine rendD_ (by kernel_rfl) ?_ | refine nxtT_ rfl ?_ | refine rendT_ (by kernel_rfl) ?_ | refine fk_ ?_ | refine nxtF_ (by kernel_rfl) rfl rfl ?_ ?_ | refine nxtF3_ (by kernel_rfl) rfl rfl rfl ?_ ?_ ?_) | (apply gLd_; first | refine w_ld (k := ?_) | refine w_lA (k := ?_) | refine w_lr (k := ?_) | refine w_l2 (k := ?_)) | (apply gG_; first | refine w_on (k := ?_) | refine w_of (k := ?_) | refine gcaseD_ rfl rfl rfl (fun h h' => ?_) (fun h h' => ?_) | refine gcaseE_ rfl rfl rfl (fun h h' => ?_) (fun h h' => ?_) | refine gcaseN_ rfl rfl rfl (fun h h' => ?_) (fun h h' => ?_) | refine gcase_ rfl rfl rfl (fun h => ?_) (fun h => ?_)) | (apply gSt_; first | refine w_st (k := ?_) | refine w_sA (k := ?_)) | (apply cSeq_; refine seq_ ?_) | (apply cReg_; refine region_ ?_) | (apply cIf_; first | refine ifT_ rfl ?_ | refine ifF_ rfl ?_ | refine ifB_ rfl (by assumption) ?_ | refine ifC_ rfl (by assumption) ?_ | refine ifD_ rfl (fun h => ?_) (fun h => ?_) | refine ifE_ rfl (fun h => ?_) (fun h => ?_) | refine ifN_ rfl (fun h => ?_) (fun h => ?_) | refine if_ rfl (fun h => ?_) (fun h => ?_)) | (apply gBd_; refine w_bd (k := ?_)) | (apply gBs_; refine w_bs (k := fun _ => ?_)) | (apply gBx_; refine w_bx (k := fun _ => ?_)) | (apply gAl_; refine w_al (k := fun _ => ?_)) | (apply gCv_; first | refine w_cv (k := ?_) | refine w_cB (kk := ?_) | refine w_cB2 (kk := ?_)) | (apply gAs_; refine w_as (k := ?_)) | (apply gFa_; refine w_fa (k := ?_)) | (apply gBi_; refine w_bi (k := ?_)) | (apply gPi_; refine w_pi (k := ?_)) | (apply gNc_; refine w_nc (k := ?_)) | (apply gXt_; refine w_xt (k := ?_)) | (apply gCB_; refine w_cb (k := ?_)) | (apply gUn_; refine w_un (k := ?_)) | (apply gFl_; refine w_fl (k := ?_)) | (apply gSl_; refine w_sl (k := ?_)) | (apply gIx_; refine w_ix (k := ?_)) | (apply gIa_; refine w_ia (k := ?_)) | (apply gMf_; refine w_mf (k := ?_)) | (apply cSkip_; refine skip_ ?_) | (apply cBlock_; refine block_ ?_) | (apply cBlk_; refine blk_ ?_) | (apply cExit_; refine exit_ rfl ?_)))
    · rw [parFind_some l typ i q hq (by assumption) hno]
      refine retWD_ (rs := [.cell 4 41, .tmp 5]) rfl (.cell rfl .head rfl (.tmp rfl .nil)) rfl (by (repeat (first | exact .nil | ((first | apply Sel.cons | apply Cut.cons); repeat (first | exact .head | apply Pl.tail)))))
    · refine stopAt_ (M := [parsIn g l, blk x (.cells #[.int .i64 0, .string emp] 41), R]) [1, 4, 5, 8, 9, 10] rfl (by (repeat (first | exact .nil | ((first | apply Sel.cons | apply Cut.cons); repeat (first | exact .head | apply Pl.tail))))) ⟨l.length - (i + 1), by omega, i + 1, rfl, by omega, fun j p hj hp => ?_, rfl, rfl⟩
      rcases Nat.lt_or_eq_of_le (Nat.le_of_lt_succ hj) with h1 | h1
      · exact hno j p h1 hp
      · subst h1
        rw [hq] at hp
        cases hp
        assumption
    · exact absurd hlt' (by assumption)
  · have hlt' : ¬ (i : Int) < (l.length : Int) := by omega
    repeat' (first | (apply gMv_; refine w_mv (k := ?_)) | (apply gN_; first | refine nxt_ ?_ | refine rend_ ?_ | refine nxtD_ rfl ?_ | refine rendD_ (by kernel_rfl) ?_ | refine nxtT_ rfl ?_ | refine rendT_ (by kernel_rfl) ?_ | refine fk_ ?_ | refine nxtF_ (by kernel_rfl) rfl rfl ?_ ?_ | refine nxtF3_ (by kernel_rfl) rfl rfl rfl ?_ ?_ ?_) | (apply gLd_; first | refine w_ld (k := ?_) | refine w_lA (k := ?_) | refine w_lr (k := ?_) | refine w_l2 (k := ?_)) | (apply gG_; first | refine w_on (k := ?_) | refine w_of (k := ?_) | refine gcaseD_ rfl rfl rfl (fun h h' => ?_) (fun h h' => ?_) | refine gcaseE_ rfl rfl rfl (fun h h' => ?_) (fun h h' => ?_) | refine gcaseN_ rfl rfl rfl (fun h h' => ?_) (fun h h' => ?_) | refine gcase_ rfl rfl rfl (fun h => ?_) (fun h => ?_)) | (apply gSt_; first | refine w_st (k := ?_) | refine w_sA (k := ?_)) | (apply cSeq_; refine seq_ ?_) | (apply cReg_; refine region_ ?_) | (apply cIf_; first | refine ifT_ rfl ?_ | refine ifF_ rfl ?_ | refine ifB_ rfl (by assumption) ?_ | refine ifC_ rfl (by assumption) ?_ | refine ifD_ rfl (fun h => ?_) (fun h => ?_) | refine ifE_ rfl (fun h => ?_) (fun h => ?_) | refine ifN_ rfl (fun h => ?_) (fun h => ?_) | refine if_ rfl (fun h => ?_) (fun h => ?_)) | (apply gBd_; refine w_bd (k := ?_)) | (apply gBs_; refine w_bs (k := fun _ => ?_)) | (apply gBx_; refine w_bx (k := fun _ => ?_)) | (apply gAl_; refine w_al (k := fun _ => ?_)) | (apply gCv_; first | refine w_cv (k := ?_) | refine w_cB (kk := ?_) | refine w_cB2 (kk := ?_)) | (apply gAs_; refine w_as (k := ?_)) | (apply gFa_; refine w_fa (k := ?_)) | (apply gBi_; refine w_bi (k := ?_)) | (apply gPi_; refine w_pi (k := ?_)) | (apply gNc_; refine w_nc (k := ?_)) | (apply gXt_; refine w_xt (k := ?_)) | (apply gCB_; refine w_cb (k := ?_)) | (apply gUn_; refine w_un (k := ?_)) | (apply gFl_; refine w_fl (k := ?_)) | (apply gSl_; refine w_sl (k := ?_)) | (apply gIx_; refine w_ix (k := ?_)) | (apply gIa_; refine w_ia (k := ?_)) | (apply gMf_; refine w_mf (k := ?_)) | (apply cSkip_; refine skip_ ?_) | (apply cBlock_; refine block_ ?_) | (apply cBlk_; refine blk_ ?_) | (apply cExit_; refine exit_ rfl ?_))
    · exact absurd (by assumption) hlt'
    · rw [parFind_none l typ (fun j p hp => hno j p (by have := (List.getElem?_eq_some_iff.1 hp).1; omega) hp)]
      refine retWD_ (rs := [.cell 4 41, .tmp 5]) rfl (.cell rfl .head rfl (.tmp rfl .nil)) rfl (by (repeat (first | exact .nil | ((first | apply Sel.cons | apply Cut.cons); repeat (first | exact .head | apply Pl.tail)))))
theorem par_find_one (t : Int) (v : ByteArray) : parFind [(t, v)] t = ((t, v), true) := parFind_some [(t, v)] t 0 (t, v) rfl rfl (fun j p hj => absurd hj (Nat.not_lt_zero j))
end Go.Proofs.Ytpghbkkjdfaflaa
