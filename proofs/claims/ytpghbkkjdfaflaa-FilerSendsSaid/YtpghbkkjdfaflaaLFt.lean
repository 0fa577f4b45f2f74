/- FilerSends: the law's walk, joined. -/
import Derived.Test.YtpghbkkjdfaflaaLFs
namespace Go.Proofs.Ytpghbkkjdfaflaa
open Go.SL
attribute [local irreducible] Val ValS Does WN WB WK Sat Ctr Wn Tfin
set_option linter.unusedVariables false
set_option linter.unusedSimpArgs false
open Go.RowKit
attribute [local irreducible] be
/-- What the first loop keeps. -/
structure BuildA (ps : List OA) : Prop where
  id : ∀ (j : Nat) x, ps[j]? = some x → x.1.1 = j ∧ x.2 = 0 ∧ x.1.2.size ≤ 4095
theorem BuildA.okA {ps : List OA} (h : BuildA ps) (hl : ps.length ≤ 6) : ∀ x ∈ ps, OkA x := fun x hx => by
  obtain ⟨j, hj⟩ := List.mem_iff_getElem?.1 hx
  obtain ⟨h1, h2, h3⟩ := h.id j x hj
  have hlt := (List.getElem?_eq_some_iff.1 hj).1
  exact ⟨by omega, by omega, by omega, by omega, h3⟩
theorem BuildA.tot {ps : List OA} (h : BuildA ps) : totP ps ≤ 9 * ps.length := by
  have key : ∀ qs : List OA, (∀ x ∈ qs, x.2 = 0 ∧ x.1.2.size ≤ 4095) → totP qs ≤ 9 * qs.length := by
    intro qs
    induction qs with
    | nil => intro _; simp [totP]
    | cons x qs ih =>
      intro hq
      have h1 := ih (fun y hy => hq y (.tail _ hy))
      obtain ⟨⟨o, a⟩, rfl⟩ : ∃ y, y = x := ⟨x, rfl⟩
      obtain ⟨h2, h3⟩ := hq (o, a) (.head _)
      simp only at h2 h3
      subst h2
      have h4 := remP_new o h3
      unfold totP at h1 ⊢
      simp only [List.map_cons, List.sum_cons, List.length_cons]
      omega
  refine key ps fun x hx => ?_
  obtain ⟨j, hj⟩ := List.mem_iff_getElem?.1 hx
  exact (h.id j x hj).2
theorem BuildA.app {ps : List OA} (h : BuildA ps) (b : ByteArray) (hb : b.size ≤ 4095) : BuildA (ps ++ [(((ps.length : Int), b), 0)]) := ⟨fun j x hj => by
  rcases Nat.lt_or_ge j ps.length with hlt | hge
  · rw [List.getElem?_append_left hlt] at hj
    exact h.id j x hj
  · rw [List.getElem?_append_right hge] at hj
    have h0 : j - ps.length = 0 := by
      rcases Nat.eq_zero_or_pos (j - ps.length) with h | h
      · exact h
      · rw [List.getElem?_eq_none (by simp; omega)] at hj; cases hj
    rw [h0] at hj
    simp only [List.getElem?_cons_zero, Option.some.injEq] at hj
    subst hj
    exact ⟨by simp only; omega, rfl, hb⟩⟩
set_option maxRecDepth 20000 in
set_option maxHeartbeats 8000000 in
theorem sends_c (w : World) (p0 p1 : Option Addr) (n0 c0 n1 c1 : Nat) (ss : List ByteArray) (zs : List Int) (hn0 : ss.length = n0) (hn1 : zs.length = n1) (hss : ∀ x ∈ ss, x.size ≤ 9223372036854775807) (hr0 : RowB w p0 1 rowStr ss) (hr1 : RowB w p1 1 rowI zs) :
    Ctr Try.prog 8 [.slice p0 n0 c0, .slice p1 n1 c1] [base w] (fun v L => v = .bool true ∧ L = [base w]) := by
  refine ctr_ Try.func8 rfl Try.ntmps8 rfl fun E R => ?_
  have hNew := NewP_c
  simp only [sndP, sndN] at hNew
  repeat' (first | (apply gBs_; first | refine w_bsV rowO [] (k := fun _ => ?_) | refine w_bsV rowI [] (k := fun _ => ?_)) | (apply gCa_; first | refine w_cg (hNew) (k := fun _ => ?_)) | (first | (apply gMv_; refine w_mv (k := ?_)) | (apply gN_; first | refine nxt_ ?_ | refine rend_ ?_ | refine nxtD_ rfl ?_ | refine rendD_ (by kernel_rfl) ?_ | refine nxtT_ rfl ?_ | refine rendT_ (by kernel_rfl) ?_ | refine fk_ ?_ | refine nxtF_ (by kernel_rfl) rfl rfl ?_ ?_ | refine nxtF3_ (by kernel_rfl) rfl rfl rfl ?_ ?_ ?_) | (apply gLd_; first | refine w_ld (k := ?_) | refine w_lA (k := ?_) | refine w_lr (k := ?_) | refine w_lvc (k := ?_) | refine w_lvA (k := ?_) | refine w_l2 (k := ?_)) | (apply gG_; first | refine w_on (k := ?_) | refine w_of (k := ?_) | refine gcaseD_ rfl rfl rfl (fun h h' => ?_) (fun h h' => ?_) | refine gcaseE_ rfl rfl rfl (fun h h' => ?_) (fun h h' => ?_) | refine gcaseN_ rfl rfl rfl (fun h h' => ?_) (fun h h' => ?_) | refine gcase_ rfl rfl rfl (fun h => ?_) (fun h => ?_)) | (apply gSt_; first | refine w_st (k := ?_) | refine w_sA (k := ?_)) | (apply cSeq_; refine seq_ ?_) | (apply cReg_; refine region_ ?_) | (apply cIf_; first | refine ifT_ rfl ?_ | refine ifF_ rfl ?_ | refine ifB_ rfl (by assumption) ?_ | refine ifC_ rfl (by assumption) ?_ | refine ifD_ rfl (fun h => ?_) (fun h => ?_) | refine ifE_ rfl (fun h => ?_) (fun h => ?_) | refine ifN_ rfl (fun h => ?_) (fun h => ?_) | refine if_ rfl (fun h => ?_) (fun h => ?_)) | (apply gBd_; refine w_bd (k := ?_)) | (apply gBs_; refine w_bs (k := fun _ => ?_)) | (apply gBx_; refine w_bx (k := fun _ => ?_)) | (apply gAl_; refine w_al (k := fun _ => ?_)) | (apply gCv_; first | refine w_cv (k := ?_) | refine w_cB (kk := ?_) | refine w_cB2 (kk := ?_)) | (apply gAs_; refine w_as (k := ?_)) | (apply gFa_; refine w_fa (k := ?_)) | (apply gBi_; refine w_bi (k := ?_)) | (apply gPi_; refine w_pi (k := ?_)) | (apply gNc_; refine w_nc (k := ?_)) | (apply gXt_; refine w_xt (k := ?_)) | (apply gCB_; first | refine w_cb (k := ?_) | refine w_ap1 (k' := fun _ _ _ => ?_)) | (apply gUn_; refine w_un (k := ?_)) | (apply gFl_; refine w_fl (k := ?_)) | (apply gSl_; first | refine w_sV (k := ?_) | refine w_sl (k := ?_)) | (apply gIx_; refine w_ix (k := ?_)) | (apply gIa_; refine w_iA (k := ?_)) | (apply gMf_; refine w_mf (k := ?_)) | (apply cSkip_; refine skip_ ?_) | (apply cBlock_; refine block_ ?_) | (apply cBlk_; refine blk_ ?_) | (apply cExit_; refine exit_ rfl ?_)))
  rename_i s ga gb
  refine loop_ (M := [blk s (.cells #[.slice none 0 0, .slice none 0 0, .int .i64 0] 150 (0, 0)), vec none 0 0 29 2 (rowsL rowO []), vec none 0 0 3 1 (rowsL rowI []), vec (some ⟨ga, 0, none⟩) 0 0 29 2 (rowsL rowO []), vec (some ⟨gb, 0, none⟩) 0 0 3 1 (rowsL rowI []), base w, R])
    (fun m env L => ∃ (i : Nat) (l : SPl) (ps : List OA) (pa pb : Option Addr) (ca cb : Nat), m = 6 - i ∧ i ≤ 6 ∧ ps.length = i ∧ BuildA ps ∧
      env = [(0, .slice p0 n0 c0), (1, .slice p1 n1 c1), (5, ptr s), (6, .slice pa i ca), (7, .slice pb i cb), (8, .int .i64 i)] ∧
      L = sndN s l ps i 0 ++ [vec pa i ca 29 2 (rowsL rowO (objs ps)), vec pb i cb 3 1 (rowsL rowI (atsOf ps)), base w, R])
    6 [0, 1, 5, 6, 7, 8] rfl (by ((repeat (first | exact .nil | ((first | apply Sel.cons | apply Cut.cons); repeat (first | exact .head | apply Pl.tail)))); first | done | fail)) ⟨0, ⟨none, 0, none, 0⟩, [], some ⟨ga, 0, none⟩, some ⟨gb, 0, none⟩, 0, 0, rfl, by omega, rfl, ⟨fun j x h => by simp at h⟩, rfl, rfl⟩ ?_
  rintro m env L ⟨i, l, ps, pa, pb, ca, cb, hm, hi, hpl, hB, rfl, rfl⟩
  subst hpl
  by_cases hin : ps.length < n0 ∧ ps.length < n1 ∧ ps.length < 6
  · obtain ⟨hi0, hi1, hi6⟩ := hin
    have d0 : decide ((ps.length : Int) < (n0 : Int)) = true := decide_eq_true (by omega)
    have d1 : decide ((ps.length : Int) < (n1 : Int)) = true := decide_eq_true (by omega)
    have d2 : decide ((ps.length : Int) < 6) = true := decide_eq_true (by omega)
    obtain ⟨x, hx⟩ : ∃ x, ss[ps.length]? = some x := ⟨ss[ps.length]'(by omega), List.getElem?_eq_getElem (by omega)⟩
    obtain ⟨z, hz⟩ : ∃ z, zs[ps.length]? = some z := ⟨zs[ps.length]'(by omega), List.getElem?_eq_getElem (by omega)⟩
    obtain ⟨a0, rfl, _⟩ := hr0 ps.length x hx
    obtain ⟨a1, rfl, _⟩ := hr1 ps.length z hz
    have hby := bytes_c x z (hss x (List.mem_of_getElem? hx))
    have hne : ∀ y ∈ ps, y.1.1 ≠ (ps.length : Int) := fun y hy => by
      obtain ⟨j, hj⟩ := List.mem_iff_getElem?.1 hy
      have := (hB.id j y hj).1
      have hlt := (List.getElem?_eq_some_iff.1 hj).1
      omega
    have hP1 := fun b : {b : ByteArray // b.size ≤ 4095} => PutP_c s l ps ((ps.length : Int), b.1) b.2 hne (by omega)
    have hP2 := fun l' (b : {b : ByteArray // b.size ≤ 4095}) => PutPT_c s l' (ps ++ [(((ps.length : Int), b.1), 0)]) ((ps.length : Int), b.1) b.2 ⟨_, List.mem_append_right _ (.head _), rfl⟩ (by simp; omega)
    have e1 : ∀ y : OA, (ps ++ [y]).length = ps.length + 1 := fun y => by simp
    simp only [sndP, sndN, List.cons_append, List.nil_append, e1] at hP1 hP2 ⊢
    repeat' (first | (apply cRegD_; refine w_rD (id := 5) 14 (.cons 0 (.cons 1 (.cons 2 (.cons 3 (.cons 4 (.cons 6 (.cons 7 (.cons 8 (.cons 5 (.cons 9 (.two 10 (.cons 11 (.cons 12 (.cons 13 .nil))) 12 (.cons 10 (.cons 11 (.cons 13 .nil)))))))))))))) [base w] [] (h := ?_)) | (apply gLd_; first | refine w_lb0 (row := rowStr) hr0 hx (k := ?_) | refine w_lb0 (row := rowI) hr1 hz (k := ?_)) | (apply gCa_; first | refine w_cg hby (k := fun _ => ?_) | refine w_cg (hP1 _) (k := fun _ => ?_) | refine w_cd (hP2 _ _) (k := ?_)) | (apply gCB_; first | refine w_ap1 (b := ((ps.length : Int), _)) (row := rowO) (k' := fun _ _ _ => ?_) | refine w_ap1 (b := (0 : Int)) (row := rowI) (k' := fun _ _ _ => ?_)) | (apply gCv_; refine w_cvn (k := ?_)) | (apply gBi_; first | refine w_bsE (k := ?_) | refine w_cat (k := ?_)) | (first | (apply gMv_; refine w_mv (k := ?_)) | (apply gN_; first | refine nxt_ ?_ | refine rend_ ?_ | refine nxtD_ rfl ?_ | refine rendD_ (by kernel_rfl) ?_ | refine nxtT_ rfl ?_ | refine rendT_ (by kernel_rfl) ?_ | refine fk_ ?_ | refine nxtF_ (by kernel_rfl) rfl rfl ?_ ?_ | refine nxtF3_ (by kernel_rfl) rfl rfl rfl ?_ ?_ ?_) | (apply gLd_; first | refine w_ld (k := ?_) | refine w_lA (k := ?_) | refine w_lr (k := ?_) | refine w_lvc (k := ?_) | refine w_lvA (k := ?_) | refine w_l2 (k := ?_)) | (apply gG_; first | refine w_on (k := ?_) | refine w_of (k := ?_) | refine gcaseD_ rfl rfl rfl (fun h h' => ?_) (fun h h' => ?_) | refine gcaseE_ rfl rfl rfl (fun h h' => ?_) (fun h h' => ?_) | refine gcaseN_ rfl rfl rfl (fun h h' => ?_) (fun h h' => ?_) | refine gcase_ rfl rfl rfl (fun h => ?_) (fun h => ?_)) | (apply gSt_; first | refine w_st (k := ?_) | refine w_sA (k := ?_)) | (apply cSeq_; refine seq_ ?_) | (apply cReg_; refine region_ ?_) | (apply cIf_; first | refine ifT_ rfl ?_ | refine ifF_ rfl ?_ | refine ifB_ rfl (by assumption) ?_ | refine ifC_ rfl (by assumption) ?_ | refine ifD_ rfl (fun h => ?_) (fun h => ?_) | refine ifE_ rfl (fun h => ?_) (fun h => ?_) | refine ifN_ rfl (fun h => ?_) (fun h => ?_) | refine if_ rfl (fun h => ?_) (fun h => ?_)) | (apply gBd_; refine w_bd (k := ?_)) | (apply gBs_; refine w_bs (k := fun _ => ?_)) | (apply gBx_; refine w_bx (k := fun _ => ?_)) | (apply gAl_; refine w_al (k := fun _ => ?_)) | (apply gCv_; first | refine w_cv (k := ?_) | refine w_cB (kk := ?_) | refine w_cB2 (kk := ?_)) | (apply gAs_; refine w_as (k := ?_)) | (apply gFa_; refine w_fa (k := ?_)) | (apply gBi_; refine w_bi (k := ?_)) | (apply gPi_; refine w_pi (k := ?_)) | (apply gNc_; refine w_nc (k := ?_)) | (apply gXt_; refine w_xt (k := ?_)) | (apply gCB_; first | refine w_cb (k := ?_) | refine w_ap1 (k' := fun _ _ _ => ?_)) | (apply gUn_; refine w_un (k := ?_)) | (apply gFl_; refine w_fl (k := ?_)) | (apply gSl_; first | refine w_sV (k := ?_) | refine w_sl (k := ?_)) | (apply gIx_; refine w_ix (k := ?_)) | (apply gIa_; refine w_iA (k := ?_)) | (apply gMf_; refine w_mf (k := ?_)) | (apply cSkip_; refine skip_ ?_) | (apply cBlock_; refine block_ ?_) | (apply cBlk_; refine blk_ ?_) | (apply cExit_; refine exit_ rfl ?_)))
    all_goals
      have e2 : ∀ b, objs ps ++ [((ps.length : Int), b)] = objs (ps ++ [(((ps.length : Int), b), 0)]) := fun b => by simp [objs]
      have e3 : ∀ b, atsOf ps ++ [(0 : Int)] = atsOf (ps ++ [(((ps.length : Int), b), 0)]) := fun b => by simp [atsOf]
    all_goals
      simp only [e2, e3 (‹{b : ByteArray // b.size ≤ 4095}›).1]
      exact e_stop _ [0, 1, 5, 6, 7, 8] ⟨6 - (ps.length + 1), by omega, ps.length + 1, _, ps ++ [(((ps.length : Int), (‹{b : ByteArray // b.size ≤ 4095}›).1), 0)], _, _, _, _, rfl, by omega, by simp, hB.app _ (‹{b : ByteArray // b.size ≤ 4095}›).2, rfl, rfl⟩
  · have hT0 := hB.tot
    have hK0 := hB.okA hi
    simp only [sndN, List.cons_append, List.nil_append]
    repeat' (first | (apply gMv_; refine w_mv (k := ?_)) | (apply gN_; first | refine nxt_ ?_ | refine rend_ ?_ | refine nxtD_ rfl ?_ | refine rendD_ (by kernel_rfl) ?_ | refine nxtT_ rfl ?_ | refine rendT_ (by kernel_rfl) ?_ | refine fk_ ?_ | refine nxtF_ (by kernel_rfl) rfl rfl ?_ ?_ | refine nxtF3_ (by kernel_rfl) rfl rfl rfl ?_ ?_ ?_) | (apply gLd_; first | refine w_ld (k := ?_) | refine w_lA (k := ?_) | refine w_lr (k := ?_) | refine w_lvc (k := ?_) | refine w_lvA (k := ?_) | refine w_l2 (k := ?_)) | (apply gG_; first | refine w_on (k := ?_) | refine w_of (k := ?_) | refine gcaseD_ rfl rfl rfl (fun h h' => ?_) (fun h h' => ?_) | refine gcaseE_ rfl rfl rfl (fun h h' => ?_) (fun h h' => ?_) | refine gcaseN_ rfl rfl rfl (fun h h' => ?_) (fun h h' => ?_) | refine gcase_ rfl rfl rfl (fun h => ?_) (fun h => ?_)) | (apply gSt_; first | refine w_st (k := ?_) | refine w_sA (k := ?_)) | (apply cSeq_; refine seq_ ?_) | (apply cReg_; refine region_ ?_) | (apply cIf_; first | refine ifT_ rfl ?_ | refine ifF_ rfl ?_ | refine ifB_ rfl (by assumption) ?_ | refine ifC_ rfl (by assumption) ?_ | refine ifD_ rfl (fun h => ?_) (fun h => ?_) | refine ifE_ rfl (fun h => ?_) (fun h => ?_) | refine ifN_ rfl (fun h => ?_) (fun h => ?_) | refine if_ rfl (fun h => ?_) (fun h => ?_)) | (apply gBd_; refine w_bd (k := ?_)) | (apply gBs_; refine w_bs (k := fun _ => ?_)) | (apply gBx_; refine w_bx (k := fun _ => ?_)) | (apply gAl_; refine w_al (k := fun _ => ?_)) | (apply gCv_; first | refine w_cv (k := ?_) | refine w_cB (kk := ?_) | refine w_cB2 (kk := ?_)) | (apply gAs_; refine w_as (k := ?_)) | (apply gFa_; refine w_fa (k := ?_)) | (apply gBi_; refine w_bi (k := ?_)) | (apply gPi_; refine w_pi (k := ?_)) | (apply gNc_; refine w_nc (k := ?_)) | (apply gXt_; refine w_xt (k := ?_)) | (apply gCB_; first | refine w_cb (k := ?_) | refine w_ap1 (k' := fun _ _ _ => ?_)) | (apply gUn_; refine w_un (k := ?_)) | (apply gFl_; refine w_fl (k := ?_)) | (apply gSl_; first | refine w_sV (k := ?_) | refine w_sl (k := ?_)) | (apply gIx_; refine w_ix (k := ?_)) | (apply gIa_; refine w_iA (k := ?_)) | (apply gMf_; refine w_mf (k := ?_)) | (apply cSkip_; refine skip_ ?_) | (apply cBlock_; refine block_ ?_) | (apply cBlk_; refine blk_ ?_) | (apply cExit_; refine exit_ rfl ?_))
    all_goals try (exfalso; omega)
    all_goals
      refine loop_ (M := _) (fun m env L => ∃ (k n : Nat) (l : SPl) (ps : List OA) (turn : Int) (pa pb : Option Addr) (ca cb : Nat), m = 200 - k ∧ k + totP ps ≤ 60 ∧ ps.length = n ∧ n ≤ 6 ∧ (∀ x ∈ ps, OkA x) ∧ 0 ≤ turn ∧ turn ≤ 1000 ∧
        env = [(5, ptr s), (6, .slice pa n ca), (7, .slice pb n cb), (10, .int .i64 turn), (11, .int .i64 k)] ∧
        L = sndN s l ps n turn ++ [vec pa n ca 29 2 (rowsL rowO (objs ps)), vec pb n cb 3 1 (rowsL rowI (atsOf ps)), base w, R])
        200 [5, 6, 7, 10, 11] rfl ?_ ⟨0, ps.length, l, ps, 0, pa, pb, ca, cb, rfl, by omega, rfl, by omega, hK0, by omega, by omega, rfl, rfl⟩ ?_
      · simp only [sndN, List.cons_append, List.nil_append]
        ((repeat (first | exact .nil | ((first | apply Sel.cons | apply Cut.cons); repeat (first | exact .head | apply Pl.tail)))); first | done | fail)
    all_goals clear hT0 hK0 hB hm hin hi
    all_goals
      rintro m env L ⟨k, n, l, ps, turn, pa, pb, ca, cb, hm, hk, hpl, hn6, hok, t0, t1, rfl, rfl⟩
      subst hpl
      by_cases hz : ps.length = 0
      · obtain rfl : ps = [] := List.eq_nil_of_length_eq_zero hz
        have hPe := Peek0P_c s l turn
        have hLe := LenP_c s l [] turn
        simp only [sndP, sndN, List.cons_append, List.nil_append, List.length_nil] at hPe hLe ⊢
        have d5 : decide ((k : Int) < 200) = true := decide_eq_true (by omega)
        repeat' (first | (apply gCa_; first | refine w_cd (hPe) (k := ?_) | refine w_cd (hLe) (k := ?_) | refine w_cd (awake40_c) (k := ?_)) | (first | (apply gMv_; refine w_mv (k := ?_)) | (apply gN_; first | refine nxt_ ?_ | refine rend_ ?_ | refine nxtD_ rfl ?_ | refine rendD_ (by kernel_rfl) ?_ | refine nxtT_ rfl ?_ | refine rendT_ (by kernel_rfl) ?_ | refine fk_ ?_ | refine nxtF_ (by kernel_rfl) rfl rfl ?_ ?_ | refine nxtF3_ (by kernel_rfl) rfl rfl rfl ?_ ?_ ?_) | (apply gLd_; first | refine w_ld (k := ?_) | refine w_lA (k := ?_) | refine w_lr (k := ?_) | refine w_lvc (k := ?_) | refine w_lvA (k := ?_) | refine w_l2 (k := ?_)) | (apply gG_; first | refine w_on (k := ?_) | refine w_of (k := ?_) | refine gcaseD_ rfl rfl rfl (fun h h' => ?_) (fun h h' => ?_) | refine gcaseE_ rfl rfl rfl (fun h h' => ?_) (fun h h' => ?_) | refine gcaseN_ rfl rfl rfl (fun h h' => ?_) (fun h h' => ?_) | refine gcase_ rfl rfl rfl (fun h => ?_) (fun h => ?_)) | (apply gSt_; first | refine w_st (k := ?_) | refine w_sA (k := ?_)) | (apply cSeq_; refine seq_ ?_) | (apply cReg_; refine region_ ?_) | (apply cIf_; first | refine ifT_ rfl ?_ | refine ifF_ rfl ?_ | refine ifB_ rfl (by assumption) ?_ | refine ifC_ rfl (by assumption) ?_ | refine ifD_ rfl (fun h => ?_) (fun h => ?_) | refine ifE_ rfl (fun h => ?_) (fun h => ?_) | refine ifN_ rfl (fun h => ?_) (fun h => ?_) | refine if_ rfl (fun h => ?_) (fun h => ?_)) | (apply gBd_; refine w_bd (k := ?_)) | (apply gBs_; refine w_bs (k := fun _ => ?_)) | (apply gBx_; refine w_bx (k := fun _ => ?_)) | (apply gAl_; refine w_al (k := fun _ => ?_)) | (apply gCv_; first | refine w_cv (k := ?_) | refine w_cB (kk := ?_) | refine w_cB2 (kk := ?_)) | (apply gAs_; refine w_as (k := ?_)) | (apply gFa_; refine w_fa (k := ?_)) | (apply gBi_; refine w_bi (k := ?_)) | (apply gPi_; refine w_pi (k := ?_)) | (apply gNc_; refine w_nc (k := ?_)) | (apply gXt_; refine w_xt (k := ?_)) | (apply gCB_; first | refine w_cb (k := ?_) | refine w_ap1 (k' := fun _ _ _ => ?_)) | (apply gUn_; refine w_un (k := ?_)) | (apply gFl_; refine w_fl (k := ?_)) | (apply gSl_; first | refine w_sV (k := ?_) | refine w_sl (k := ?_)) | (apply gIx_; refine w_ix (k := ?_)) | (apply gIa_; refine w_iA (k := ?_)) | (apply gMf_; refine w_mf (k := ?_)) | (apply cSkip_; refine skip_ ?_) | (apply cBlock_; refine block_ ?_) | (apply cBlk_; refine blk_ ?_) | (apply cExit_; refine exit_ rfl ?_)))
        exact e_rets
      · have hpos := remP_pos
        obtain ⟨N, hN⟩ := Int.eq_ofNat_of_zero_le (Int.tmod_nonneg (ps.length : Int) t0)
        have hNl : N < ps.length := by
          have := Int.tmod_lt_of_pos turn (show (0 : Int) < ps.length by omega)
          omega
        obtain ⟨⟨o, a⟩, hp⟩ : ∃ x, ps[N]? = some x := ⟨ps[N], List.getElem?_eq_getElem hNl⟩
        have hx := hok _ (List.mem_of_getElem? hp)
        have x1 := hx.i0; have x2 := hx.i1; have x3 := hx.a0; have x4 := hx.a1; have x5 := hx.s1
        simp only at x1 x2 x3 x4 x5
        have hcut := totP_cut hp
        have hk1 := hpos (o, a)
        have hPc := Piece_c o a x3 x4 (by omega)
        have hpc := piece40_c o a x1 x2 x3 x4 (by omega)
        generalize pieceB o.1 (o.2.size : Int) a (o.2.extract a.toNat (min (a + 500) (o.2.size : Int)).toNat) = X at *
        have hPe := PeekP_c s l ps turn N o a X hN hp (by omega) hPc
        have hLe := LenP_c s l ps turn
        have hXX : (!(X.toList == X.toList)) = false := by simp
        have hll : (((ps.length : Nat) : Int) != ((ps.length : Nat) : Int)) = false := by simp
        have hoT : (objs ps)[(turn.tmod (ps.length : Int)).toNat]? = some o := by rw [hN]; simp [objs, hp]
        have haT : (atsOf ps)[(turn.tmod (ps.length : Int)).toNat]? = some a := by rw [hN]; simp [atsOf, hp]
        have haU : ((atsOf ps).set (turn.tmod (ps.length : Int)).toNat (a + 500))[(turn.tmod (ps.length : Int)).toNat]? = some (a + 500) := by rw [hN]; exact List.getElem?_set_self (by rw [lenA]; exact hNl)
        have d5 : decide ((k : Int) < 200) = true := decide_eq_true (by omega)
        have d6 : decide ((ps.length : Int) > 0) = true := decide_eq_true (by omega)
        have e6 : (turn.tmod (ps.length : Int)).toNat = N := by rw [hN]; rfl
        by_cases hfin : a + 500 < o.2.size
        · have hDo := DoneP_c s l ps turn N o a hN hp (by omega) hx hfin
          have d7 : decide (a + 500 ≥ (o.2.size : Int)) = false := decide_eq_false (by omega)
          have e7 : (ps.set N (o, a + 500)).length = ps.length := List.length_set
          simp only [sndP, sndN, List.cons_append, List.nil_append, e7] at hPe hLe hDo ⊢
          refine vsome_ (.tail (.tail (.tail .head))) (by omega) fun g1 q1 h1 => ?_
          subst h1
          refine vsome_ (.tail (.tail (.tail (.tail .head)))) (by omega) fun g2 q2 h2 => ?_
          subst h2
          repeat' (first | (apply cRegD_; first | refine w_rD (id := 15) 22 (.cons 0 (.cons 1 (.cons 2 (.cons 3 (.cons 4 (.cons 5 (.cons 6 (.cons 8 (.cons 9 (.cons 10 (.cons 7 (.cons 11 (.cons 12 (.cons 13 (.cons 14 (.cons 15 (.cons 16 (.cons 18 (.cons 19 (.cons 17 (.cons 20 (.cons 21 .nil)))))))))))))))))))))) [vec (some ⟨g1, q1, none⟩) ps.length ca 29 2 (rowsL rowO (objs ps)), vec (some ⟨g2, q2, none⟩) ps.length cb 3 1 (rowsL rowI (atsOf ps))] [] (h := ?_) | refine w_rD (id := 20) 11 (.cons 0 (.cons 1 (.cons 2 (.cons 4 (.cons 5 (.cons 6 (.cons 7 (.cons 3 (.cons 8 (.cons 9 (.cons 10 .nil))))))))))) [vec (some ⟨g1, q1, none⟩) ps.length ca 29 2 (rowsL rowO (objs ps)), vec (some ⟨g2, q2, none⟩) ps.length cb 3 1 (rowsL rowI ((atsOf ps).set (turn.tmod (ps.length : Int)).toNat (a + 500)))] [] (h := ?_)) | (apply gSt_; refine w_svc (row := rowI) (a + 500) (fun _ => rfl) haT (k := ?_)) | (apply gCa_; first | refine w_cd (hPe) (k := ?_) | refine w_cd (hLe) (k := ?_) | refine w_cd (hpc) (k := ?_) | refine w_cd (hDo) (k := ?_)) | (first | (apply gMv_; refine w_mv (k := ?_)) | (apply gN_; first | refine nxt_ ?_ | refine rend_ ?_ | refine nxtD_ rfl ?_ | refine rendD_ (by kernel_rfl) ?_ | refine nxtT_ rfl ?_ | refine rendT_ (by kernel_rfl) ?_ | refine fk_ ?_ | refine nxtF_ (by kernel_rfl) rfl rfl ?_ ?_ | refine nxtF3_ (by kernel_rfl) rfl rfl rfl ?_ ?_ ?_) | (apply gLd_; first | refine w_ld (k := ?_) | refine w_lA (k := ?_) | refine w_lr (k := ?_) | refine w_lvc (k := ?_) | refine w_lvA (k := ?_) | refine w_l2 (k := ?_)) | (apply gG_; first | refine w_on (k := ?_) | refine w_of (k := ?_) | refine gcaseD_ rfl rfl rfl (fun h h' => ?_) (fun h h' => ?_) | refine gcaseE_ rfl rfl rfl (fun h h' => ?_) (fun h h' => ?_) | refine gcaseN_ rfl rfl rfl (fun h h' => ?_) (fun h h' => ?_) | refine gcase_ rfl rfl rfl (fun h => ?_) (fun h => ?_)) | (apply gSt_; first | refine w_st (k := ?_) | refine w_sA (k := ?_)) | (apply cSeq_; refine seq_ ?_) | (apply cReg_; refine region_ ?_) | (apply cIf_; first | refine ifT_ rfl ?_ | refine ifF_ rfl ?_ | refine ifB_ rfl (by assumption) ?_ | refine ifC_ rfl (by assumption) ?_ | refine ifD_ rfl (fun h => ?_) (fun h => ?_) | refine ifE_ rfl (fun h => ?_) (fun h => ?_) | refine ifN_ rfl (fun h => ?_) (fun h => ?_) | refine if_ rfl (fun h => ?_) (fun h => ?_)) | (apply gBd_; refine w_bd (k := ?_)) | (apply gBs_; refine w_bs (k := fun _ => ?_)) | (apply gBx_; refine w_bx (k := fun _ => ?_)) | (apply gAl_; refine w_al (k := fun _ => ?_)) | (apply gCv_; first | refine w_cv (k := ?_) | refine w_cB (kk := ?_) | refine w_cB2 (kk := ?_)) | (apply gAs_; refine w_as (k := ?_)) | (apply gFa_; refine w_fa (k := ?_)) | (apply gBi_; refine w_bi (k := ?_)) | (apply gPi_; refine w_pi (k := ?_)) | (apply gNc_; refine w_nc (k := ?_)) | (apply gXt_; refine w_xt (k := ?_)) | (apply gCB_; first | refine w_cb (k := ?_) | refine w_ap1 (k' := fun _ _ _ => ?_)) | (apply gUn_; refine w_un (k := ?_)) | (apply gFl_; refine w_fl (k := ?_)) | (apply gSl_; first | refine w_sV (k := ?_) | refine w_sl (k := ?_)) | (apply gIx_; refine w_ix (k := ?_)) | (apply gIa_; refine w_iA (k := ?_)) | (apply gMf_; refine w_mf (k := ?_)) | (apply cSkip_; refine skip_ ?_) | (apply cBlock_; refine block_ ?_) | (apply cBlk_; refine blk_ ?_) | (apply cExit_; refine exit_ rfl ?_)))
          have hts := totP_set (y := (o, a + 500)) hp
          have hrn := remP_next o a hfin
          rw [e6, ← ats_set (o := o), ← objs_set (b := a + 500) hp, hN]
          exact e_stop _ [5, 6, 7, 10, 11] ⟨200 - (k + 1), by omega, k + 1, ps.length, l, ps.set N (o, a + 500), (N : Int) + 1, some ⟨g1, q1, none⟩, some ⟨g2, q2, none⟩, ca, cb, rfl, by omega, e7, hn6, fun x hx' => by
            rcases List.mem_or_eq_of_mem_set hx' with hx' | rfl
            · exact hok x hx'
            · exact ⟨x1, x2, by simp only; omega, by simp only; omega, x5⟩, by omega, by omega, rfl, rfl⟩
        · have hDo := GoneP_c s l ps turn N o a hN hp (by omega) hx hfin
          have d7 : decide (a + 500 ≥ (o.2.size : Int)) = true := decide_eq_true (by omega)
          have e7 : (ps.take N ++ ps.drop (N + 1)).length = ps.length - 1 := by rw [List.length_append, List.length_take, List.length_drop]; omega
          simp only [sndP, sndN, List.cons_append, List.nil_append, e7] at hPe hLe hDo ⊢
          refine vsome_ (.tail (.tail (.tail .head))) (by omega) fun g1 q1 h1 => ?_
          subst h1
          refine vsome_ (.tail (.tail (.tail (.tail .head)))) (by omega) fun g2 q2 h2 => ?_
          subst h2
          refine vfact_ (.tail (.tail (.tail .head))) fun v1 => ?_
          refine vfact_ (.tail (.tail (.tail (.tail .head)))) fun v2 => ?_
          have vl1 := v1.le
          have vl2 := v2.le
          have lA : ((atsOf ps).set (turn.tmod (ps.length : Int)).toNat (a + 500)).length = ps.length := by rw [List.length_set, lenA]
          repeat' (first | (apply cRegD_; first | refine w_rD (id := 15) 22 (.cons 0 (.cons 1 (.cons 2 (.cons 3 (.cons 4 (.cons 5 (.cons 6 (.cons 8 (.cons 9 (.cons 10 (.cons 7 (.cons 11 (.cons 12 (.cons 13 (.cons 14 (.cons 15 (.cons 16 (.cons 18 (.cons 19 (.cons 17 (.cons 20 (.cons 21 .nil)))))))))))))))))))))) [vec (some ⟨g1, q1, none⟩) ps.length ca 29 2 (rowsL rowO (objs ps)), vec (some ⟨g2, q2, none⟩) ps.length cb 3 1 (rowsL rowI (atsOf ps))] [] (h := ?_) | refine w_rD (id := 20) 11 (.cons 0 (.cons 1 (.cons 2 (.cons 4 (.cons 5 (.cons 6 (.cons 7 (.cons 3 (.cons 8 (.cons 9 (.cons 10 .nil))))))))))) [vec (some ⟨g1, q1, none⟩) ps.length ca 29 2 (rowsL rowO (objs ps)), vec (some ⟨g2, q2, none⟩) ps.length cb 3 1 (rowsL rowI ((atsOf ps).set (turn.tmod (ps.length : Int)).toNat (a + 500)))] [] (h := ?_) | refine w_rD (id := 21) 11 (.cons 1 (.cons 2 (.cons 3 (.cons 5 (.cons 6 (.cons 7 (.cons 8 (.cons 0 (.cons 4 (.cons 9 (.cons 10 .nil))))))))))) [vec (some ⟨g1, q1, none⟩) ps.length ca 29 2 (rowsL rowO (objs ps))] [] (h := ?_) | refine w_rD (id := 22) 11 (.cons 1 (.cons 2 (.cons 3 (.cons 5 (.cons 6 (.cons 7 (.cons 8 (.cons 0 (.cons 4 (.cons 9 (.cons 10 .nil))))))))))) [vec (some ⟨g2, q2, none⟩) ps.length cb 3 1 (rowsL rowI ((atsOf ps).set (turn.tmod (ps.length : Int)).toNat (a + 500)))] [] (h := ?_)) | (apply gSt_; refine w_svc (row := rowI) (a + 500) (fun _ => rfl) haT (k := ?_)) | (apply gBs_; first | refine w_bsV rowO [] (k := fun _ => ?_) | refine w_bsV rowI [] (k := fun _ => ?_)) | (apply gCB_; first | refine w_apD (row := rowO) (lenO ps) (fun _ => rfl) (k' := fun _ _ => ?_) | refine w_apT (row := rowO) (lenO ps) (fun _ => rfl) (k' := fun _ _ => ?_) | refine w_apD (row := rowI) lA (fun _ => rfl) (k' := fun _ _ => ?_) | refine w_apT (row := rowI) lA (fun _ => rfl) (k' := fun _ _ => ?_)) | (apply gCa_; first | refine w_cd (hPe) (k := ?_) | refine w_cd (hLe) (k := ?_) | refine w_cd (hpc) (k := ?_) | refine w_cg (hDo) (k := fun _ => ?_)) | (first | (apply gMv_; refine w_mv (k := ?_)) | (apply gN_; first | refine nxt_ ?_ | refine rend_ ?_ | refine nxtD_ rfl ?_ | refine rendD_ (by kernel_rfl) ?_ | refine nxtT_ rfl ?_ | refine rendT_ (by kernel_rfl) ?_ | refine fk_ ?_ | refine nxtF_ (by kernel_rfl) rfl rfl ?_ ?_ | refine nxtF3_ (by kernel_rfl) rfl rfl rfl ?_ ?_ ?_) | (apply gLd_; first | refine w_ld (k := ?_) | refine w_lA (k := ?_) | refine w_lr (k := ?_) | refine w_lvc (k := ?_) | refine w_lvA (k := ?_) | refine w_l2 (k := ?_)) | (apply gG_; first | refine w_on (k := ?_) | refine w_of (k := ?_) | refine gcaseD_ rfl rfl rfl (fun h h' => ?_) (fun h h' => ?_) | refine gcaseE_ rfl rfl rfl (fun h h' => ?_) (fun h h' => ?_) | refine gcaseN_ rfl rfl rfl (fun h h' => ?_) (fun h h' => ?_) | refine gcase_ rfl rfl rfl (fun h => ?_) (fun h => ?_)) | (apply gSt_; first | refine w_st (k := ?_) | refine w_sA (k := ?_)) | (apply cSeq_; refine seq_ ?_) | (apply cReg_; refine region_ ?_) | (apply cIf_; first | refine ifT_ rfl ?_ | refine ifF_ rfl ?_ | refine ifB_ rfl (by assumption) ?_ | refine ifC_ rfl (by assumption) ?_ | refine ifD_ rfl (fun h => ?_) (fun h => ?_) | refine ifE_ rfl (fun h => ?_) (fun h => ?_) | refine ifN_ rfl (fun h => ?_) (fun h => ?_) | refine if_ rfl (fun h => ?_) (fun h => ?_)) | (apply gBd_; refine w_bd (k := ?_)) | (apply gBs_; refine w_bs (k := fun _ => ?_)) | (apply gBx_; refine w_bx (k := fun _ => ?_)) | (apply gAl_; refine w_al (k := fun _ => ?_)) | (apply gCv_; first | refine w_cv (k := ?_) | refine w_cB (kk := ?_) | refine w_cB2 (kk := ?_)) | (apply gAs_; refine w_as (k := ?_)) | (apply gFa_; refine w_fa (k := ?_)) | (apply gBi_; refine w_bi (k := ?_)) | (apply gPi_; refine w_pi (k := ?_)) | (apply gNc_; refine w_nc (k := ?_)) | (apply gXt_; refine w_xt (k := ?_)) | (apply gCB_; first | refine w_cb (k := ?_) | refine w_ap1 (k' := fun _ _ _ => ?_)) | (apply gUn_; refine w_un (k := ?_)) | (apply gFl_; refine w_fl (k := ?_)) | (apply gSl_; first | refine w_sV (k := ?_) | refine w_sl (k := ?_)) | (apply gIx_; refine w_ix (k := ?_)) | (apply gIa_; refine w_iA (k := ?_)) | (apply gMf_; refine w_mf (k := ?_)) | (apply cSkip_; refine skip_ ?_) | (apply cBlock_; refine block_ ?_) | (apply cBlk_; refine blk_ ?_) | (apply cExit_; refine exit_ rfl ?_)))
          have e8 : 0 + (turn.tmod (ps.length : Int)).toNat + (ps.length - (turn.tmod (ps.length : Int) + 1).toNat) = ps.length - 1 := by rw [hN]; omega
          have e9 : (turn.tmod (ps.length : Int) + 1).toNat = N + 1 := by rw [hN]; omega
          rw [e8, e9, e6]
          simp only [List.nil_append]
          rw [← ats_cut (b := a + 500), ← objs_cut, hN]
          exact e_stop _ [5, 6, 7, 10, 11] ⟨200 - (k + 1), by omega, k + 1, ps.length - 1, _, ps.take N ++ ps.drop (N + 1), (N : Int), _, _, _, _, rfl, by omega, e7, by omega, fun x hx' => hok x (mem_cut hx'), by omega, by omega, rfl, rfl⟩
end Go.Proofs.Ytpghbkkjdfaflaa
