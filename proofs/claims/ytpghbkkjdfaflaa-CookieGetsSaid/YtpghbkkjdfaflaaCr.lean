/- Cookies, read. -/
import Derived.Test.YtpghbkkjdfaflaaCp
set_option linter.unusedVariables false
set_option linter.unusedSimpArgs false
namespace Go.Proofs.Ytpghbkkjdfaflaa
open Go.SL
attribute [local irreducible] Val ValS Does WN WB WK Sat Ctr Wn Tfin
set_option linter.unusedVariables false
set_option linter.unusedSimpArgs false
open Go.RowKit
attribute [local irreducible] be macB Ck.raw
def ckOf (s : ByteArray) : Ck where
  made := IntKind.i64.wrap (beN (s.extract 0 8))
  mine := beN (s.extract 8 12)
  yours := beN (s.extract 12 16)
  myTsn := beN (s.extract 16 20)
  yourTsn := beN (s.extract 20 24)
  peer := beN (s.extract 24 28)
  loc := beN (s.extract 28 32)
  pp := beN (s.extract 32 34)
  mp := beN (s.extract 34 36)
  rwnd := beN (s.extract 36 40)
  out := beN (s.extract 40 42)
  inn := beN (s.extract 42 44)
  t1 := beN (s.extract 44 48)
  t2 := beN (s.extract 48 52)
  r1 := s.extract 52 68
  r2 := s.extract 68 84
theorem rdAt (s : ByteArray) (a k b : Nat) (hb : b = a + k) (h : b ≤ s.size) : rdTake (s.extract a s.size) 0 (k : Int) = (s.extract a b, s.extract b s.size, 0) := by
  subst hb
  have hz := ext_size0 s a s.size (Nat.le_refl _)
  unfold rdTake
  rw [if_neg (by simp), if_neg (by omega), if_neg (by omega), Int.toNat_natCast]
  rw [ext_ext s a 0 k (by omega), hz, ext_ext s a k (s.size - a) (by omega)]
  rw [show a + 0 = a by omega, show a + (s.size - a) = s.size by omega]
def ckZ : Value := .agg #[.int .i64 0, .int .u32 0, .int .u32 0, .int .u32 0, .int .u32 0, .int .u32 0, .int .u32 0, .int .i64 0, .int .i64 0, .int .u32 0, .int .i64 0, .int .i64 0, .int .u32 0, .int .u32 0, .string ⟨#[]⟩, .string ⟨#[]⟩]
def rdSt (n c : Nat) (s : ByteArray) (e : Int) : Prop := (e = 0 ∧ s.size + c = n) ∨ e = 2
theorem rdSt_next {n c : Nat} {s : ByteArray} {e : Int} (k : Nat) (h : rdSt n c s e) : rdSt n (c + k) (rdTake s e (k : Int)).2.1 (rdTake s e (k : Int)).2.2 ∧ (n < c + k → (rdTake s e (k : Int)).2.2 = 2) := by
  unfold rdTake
  rcases h with ⟨rfl, h⟩ | rfl
  · rw [if_neg (by simp), if_neg (by omega)]
    by_cases hk : (k : Int) > s.size
    · rw [if_pos hk]
      exact ⟨.inr rfl, fun _ => rfl⟩
    · rw [if_neg hk]
      refine ⟨.inl ⟨rfl, ?_⟩, fun _ => by omega⟩
      simp only [ByteArray.size_extract, Int.toNat_natCast]
      omega
  · rw [if_pos (by decide)]
    exact ⟨.inr rfl, fun _ => rfl⟩
set_option maxRecDepth 20000 in
set_option maxHeartbeats 1000000 in
theorem parseS_c (s : ByteArray) (hs : s.size < 84) : Ctr Try.prog 98 [.string s] [] (fun v L => v = .tuple #[ckZ, .int .i64 2] ∧ L = []) := by
  have q0 : rdSt s.size 0 s 0 := .inl ⟨rfl, rfl⟩
  have q1 := rdSt_next 8 q0
  have u1 : ∀ g, _ := fun g => rU64_c g s 0
  rw [show ((8 : Nat) : Int) = 8 from rfl] at q1
  generalize rdTake s 0 8 = x1 at q1 u1
  obtain ⟨p1, s1, e1⟩ := x1
  simp only at q1 u1
  replace q1 := q1.1
  have q2 := rdSt_next 4 q1
  have u2 : ∀ g, _ := fun g => rU32_c g s1 e1
  rw [show ((4 : Nat) : Int) = 4 from rfl] at q2
  generalize rdTake s1 e1 4 = x2 at q2 u2
  obtain ⟨p2, s2, e2⟩ := x2
  simp only at q2 u2
  replace q2 := q2.1
  have q3 := rdSt_next 4 q2
  have u3 : ∀ g, _ := fun g => rU32_c g s2 e2
  rw [show ((4 : Nat) : Int) = 4 from rfl] at q3
  generalize rdTake s2 e2 4 = x3 at q3 u3
  obtain ⟨p3, s3, e3⟩ := x3
  simp only at q3 u3
  replace q3 := q3.1
  have q4 := rdSt_next 4 q3
  have u4 : ∀ g, _ := fun g => rU32_c g s3 e3
  rw [show ((4 : Nat) : Int) = 4 from rfl] at q4
  generalize rdTake s3 e3 4 = x4 at q4 u4
  obtain ⟨p4, s4, e4⟩ := x4
  simp only at q4 u4
  replace q4 := q4.1
  have q5 := rdSt_next 4 q4
  have u5 : ∀ g, _ := fun g => rU32_c g s4 e4
  rw [show ((4 : Nat) : Int) = 4 from rfl] at q5
  generalize rdTake s4 e4 4 = x5 at q5 u5
  obtain ⟨p5, s5, e5⟩ := x5
  simp only at q5 u5
  replace q5 := q5.1
  have q6 := rdSt_next 4 q5
  have u6 : ∀ g, _ := fun g => rU32_c g s5 e5
  rw [show ((4 : Nat) : Int) = 4 from rfl] at q6
  generalize rdTake s5 e5 4 = x6 at q6 u6
  obtain ⟨p6, s6, e6⟩ := x6
  simp only at q6 u6
  replace q6 := q6.1
  have q7 := rdSt_next 4 q6
  have u7 : ∀ g, _ := fun g => rU32_c g s6 e6
  rw [show ((4 : Nat) : Int) = 4 from rfl] at q7
  generalize rdTake s6 e6 4 = x7 at q7 u7
  obtain ⟨p7, s7, e7⟩ := x7
  simp only at q7 u7
  replace q7 := q7.1
  have q8 := rdSt_next 2 q7
  have u8 : ∀ g, _ := fun g => rU16_c g s7 e7
  rw [show ((2 : Nat) : Int) = 2 from rfl] at q8
  generalize rdTake s7 e7 2 = x8 at q8 u8
  obtain ⟨p8, s8, e8⟩ := x8
  simp only at q8 u8
  replace q8 := q8.1
  have q9 := rdSt_next 2 q8
  have u9 : ∀ g, _ := fun g => rU16_c g s8 e8
  rw [show ((2 : Nat) : Int) = 2 from rfl] at q9
  generalize rdTake s8 e8 2 = x9 at q9 u9
  obtain ⟨p9, s9, e9⟩ := x9
  simp only at q9 u9
  replace q9 := q9.1
  have q10 := rdSt_next 4 q9
  have u10 : ∀ g, _ := fun g => rU32_c g s9 e9
  rw [show ((4 : Nat) : Int) = 4 from rfl] at q10
  generalize rdTake s9 e9 4 = x10 at q10 u10
  obtain ⟨p10, s10, e10⟩ := x10
  simp only at q10 u10
  replace q10 := q10.1
  have q11 := rdSt_next 2 q10
  have u11 : ∀ g, _ := fun g => rU16_c g s10 e10
  rw [show ((2 : Nat) : Int) = 2 from rfl] at q11
  generalize rdTake s10 e10 2 = x11 at q11 u11
  obtain ⟨p11, s11, e11⟩ := x11
  simp only at q11 u11
  replace q11 := q11.1
  have q12 := rdSt_next 2 q11
  have u12 : ∀ g, _ := fun g => rU16_c g s11 e11
  rw [show ((2 : Nat) : Int) = 2 from rfl] at q12
  generalize rdTake s11 e11 2 = x12 at q12 u12
  obtain ⟨p12, s12, e12⟩ := x12
  simp only at q12 u12
  replace q12 := q12.1
  have q13 := rdSt_next 4 q12
  have u13 : ∀ g, _ := fun g => rU32_c g s12 e12
  rw [show ((4 : Nat) : Int) = 4 from rfl] at q13
  generalize rdTake s12 e12 4 = x13 at q13 u13
  obtain ⟨p13, s13, e13⟩ := x13
  simp only at q13 u13
  replace q13 := q13.1
  have q14 := rdSt_next 4 q13
  have u14 : ∀ g, _ := fun g => rU32_c g s13 e13
  rw [show ((4 : Nat) : Int) = 4 from rfl] at q14
  generalize rdTake s13 e13 4 = x14 at q14 u14
  obtain ⟨p14, s14, e14⟩ := x14
  simp only at q14 u14
  replace q14 := q14.1
  have q15 := rdSt_next 16 q14
  have u15 : ∀ g, _ := fun g => Take_c g s14 e14 16
  rw [show ((16 : Nat) : Int) = 16 from rfl] at q15
  generalize rdTake s14 e14 16 = x15 at q15 u15
  obtain ⟨p15, s15, e15⟩ := x15
  simp only at q15 u15
  replace q15 := q15.1
  have q16 := rdSt_next 16 q15
  have u16 : ∀ g, _ := fun g => Take_c g s15 e15 16
  rw [show ((16 : Nat) : Int) = 16 from rfl] at q16
  generalize rdTake s15 e15 16 = x16 at q16 u16
  obtain ⟨p16, s16, e16⟩ := x16
  simp only at q16 u16
  obtain rfl : e16 = 2 := q16.2 (by omega)
  have uE : ∀ g, _ := fun g => End_c g s16 2
  simp only [if_neg (show ¬ (2 : Int) = 0 by decide)] at uE
  refine ctr_ Try.func98 rfl Try.ntmps98 rfl fun E R => ?_
  repeat' (first | (apply gCa_; first | refine w_cg (New_c _) (k := fun _ => ?_) | refine w_cd (u1 _) (k := ?_) | refine w_cd (u2 _) (k := ?_) | refine w_cd (u3 _) (k := ?_) | refine w_cd (u4 _) (k := ?_) | refine w_cd (u5 _) (k := ?_) | refine w_cd (u6 _) (k := ?_) | refine w_cd (u7 _) (k := ?_) | refine w_cd (u8 _) (k := ?_) | refine w_cd (u9 _) (k := ?_) | refine w_cd (u10 _) (k := ?_) | refine w_cd (u11 _) (k := ?_) | refine w_cd (u12 _) (k := ?_) | refine w_cd (u13 _) (k := ?_) | refine w_cd (u14 _) (k := ?_) | refine w_cd (u15 _) (k := ?_) | refine w_cd (u16 _) (k := ?_) | refine w_cd (uE _) (k := ?_)) | (first | (apply gMv_; refine w_mv (k := ?_)) | (apply gN_; first | refine nxt_ ?_ | refine rend_ ?_ | refine nxtD_ rfl ?_ | refine rendD_ (by kernel_rfl) ?_ | refine nxtT_ rfl ?_ | refine rendT_ (by kernel_rfl) ?_ | refine fk_ ?_ | refine nxtF_ (by kernel_rfl) rfl rfl ?_ ?_ | refine nxtF3_ (by kernel_rfl) rfl rfl rfl ?_ ?_ ?_) | (apply gLd_; first | refine w_ld (k := ?_) | refine w_lA (k := ?_) | refine w_lr (k := ?_) | refine w_lvc (k := ?_) | refine w_lvA (k := ?_) | refine w_l2 (k := ?_)) | (apply gG_; first | refine w_on (k := ?_) | refine w_of (k := ?_) | refine gcaseD_ rfl rfl rfl (fun h h' => ?_) (fun h h' => ?_) | refine gcaseE_ rfl rfl rfl (fun h h' => ?_) (fun h h' => ?_) | refine gcaseN_ rfl rfl rfl (fun h h' => ?_) (fun h h' => ?_) | refine gcase_ rfl rfl rfl (fun h => ?_) (fun h => ?_)) | (apply gSt_; first | refine w_st (k := ?_) | refine w_sA (k := ?_)) | (apply cSeq_; refine seq_ ?_) | (apply cReg_; refine region_ ?_) | (apply cIf_; first | refine ifT_ rfl ?_ | refine ifF_ rfl ?_ | refine ifB_ rfl (by assumption) ?_ | refine ifC_ rfl (by assumption) ?_ | refine ifD_ rfl (fun h => ?_) (fun h => ?_) | refine ifE_ rfl (fun h => ?_) (fun h => ?_) | refine ifN_ rfl (fun h => ?_) (fun h => ?_) | refine if_ rfl (fun h => ?_) (fun h => ?_)) | (apply gBd_; refine w_bd (k := ?_)) | (apply gBs_; refine w_bs (k := fun _ => ?_)) | (apply gBx_; refine w_bx (k := fun _ => ?_)) | (apply gAl_; refine w_al (k := fun _ => ?_)) | (apply gCv_; first | refine w_cv (k := ?_) | refine w_cB (kk := ?_) | refine w_cB2 (kk := ?_)) | (apply gAs_; refine w_as (k := ?_)) | (apply gFa_; refine w_fa (k := ?_)) | (apply gBi_; refine w_bi (k := ?_)) | (apply gPi_; refine w_pi (k := ?_)) | (apply gNc_; refine w_nc (k := ?_)) | (apply gXt_; refine w_xt (k := ?_)) | (apply gCB_; first | refine w_cb (k := ?_) | refine w_ap1 (k' := fun _ _ _ => ?_)) | (apply gUn_; refine w_un (k := ?_)) | (apply gFl_; refine w_fl (k := ?_)) | (apply gSl_; first | refine w_sV (k := ?_) | refine w_sl (k := ?_)) | (apply gIx_; refine w_ix (k := ?_)) | (apply gIa_; refine w_iA (k := ?_)) | (apply gMf_; refine w_mf (k := ?_)) | (apply cSkip_; refine skip_ ?_) | (apply cBlock_; refine block_ ?_) | (apply cBlk_; refine blk_ ?_) | (apply cExit_; refine exit_ rfl ?_)))
  exact e_rets
set_option maxRecDepth 20000 in
set_option maxHeartbeats 1000000 in
theorem parseL_c (s : ByteArray) (hs : s.size ≥ 84) : Ctr Try.prog 98 [.string s] [] (fun v L => v = (if s.size = 84 ∧ (ckOf s).may = true then .tuple #[(ckOf s).v, .int .i64 0] else .tuple #[ckZ, .int .i64 3]) ∧ L = []) := by
  have e0 : s.extract 0 s.size = s := by apply ByteArray.ext; simp
  have u1 : ∀ g, _ := fun g => rU64_c g s 0
  have h1 := rdAt s 0 8 8 rfl (by omega)
  rw [e0] at h1
  rw [show ((8 : Nat) : Int) = 8 from rfl] at h1
  simp only [h1] at u1
  have u2 : ∀ g, _ := fun g => rU32_c g (s.extract 8 s.size) 0
  have h2 := rdAt s 8 4 12 rfl (by omega)
  rw [show ((4 : Nat) : Int) = 4 from rfl] at h2
  simp only [h2] at u2
  have u3 : ∀ g, _ := fun g => rU32_c g (s.extract 12 s.size) 0
  have h3 := rdAt s 12 4 16 rfl (by omega)
  rw [show ((4 : Nat) : Int) = 4 from rfl] at h3
  simp only [h3] at u3
  have u4 : ∀ g, _ := fun g => rU32_c g (s.extract 16 s.size) 0
  have h4 := rdAt s 16 4 20 rfl (by omega)
  rw [show ((4 : Nat) : Int) = 4 from rfl] at h4
  simp only [h4] at u4
  have u5 : ∀ g, _ := fun g => rU32_c g (s.extract 20 s.size) 0
  have h5 := rdAt s 20 4 24 rfl (by omega)
  rw [show ((4 : Nat) : Int) = 4 from rfl] at h5
  simp only [h5] at u5
  have u6 : ∀ g, _ := fun g => rU32_c g (s.extract 24 s.size) 0
  have h6 := rdAt s 24 4 28 rfl (by omega)
  rw [show ((4 : Nat) : Int) = 4 from rfl] at h6
  simp only [h6] at u6
  have u7 : ∀ g, _ := fun g => rU32_c g (s.extract 28 s.size) 0
  have h7 := rdAt s 28 4 32 rfl (by omega)
  rw [show ((4 : Nat) : Int) = 4 from rfl] at h7
  simp only [h7] at u7
  have u8 : ∀ g, _ := fun g => rU16_c g (s.extract 32 s.size) 0
  have h8 := rdAt s 32 2 34 rfl (by omega)
  rw [show ((2 : Nat) : Int) = 2 from rfl] at h8
  simp only [h8] at u8
  have u9 : ∀ g, _ := fun g => rU16_c g (s.extract 34 s.size) 0
  have h9 := rdAt s 34 2 36 rfl (by omega)
  rw [show ((2 : Nat) : Int) = 2 from rfl] at h9
  simp only [h9] at u9
  have u10 : ∀ g, _ := fun g => rU32_c g (s.extract 36 s.size) 0
  have h10 := rdAt s 36 4 40 rfl (by omega)
  rw [show ((4 : Nat) : Int) = 4 from rfl] at h10
  simp only [h10] at u10
  have u11 : ∀ g, _ := fun g => rU16_c g (s.extract 40 s.size) 0
  have h11 := rdAt s 40 2 42 rfl (by omega)
  rw [show ((2 : Nat) : Int) = 2 from rfl] at h11
  simp only [h11] at u11
  have u12 : ∀ g, _ := fun g => rU16_c g (s.extract 42 s.size) 0
  have h12 := rdAt s 42 2 44 rfl (by omega)
  rw [show ((2 : Nat) : Int) = 2 from rfl] at h12
  simp only [h12] at u12
  have u13 : ∀ g, _ := fun g => rU32_c g (s.extract 44 s.size) 0
  have h13 := rdAt s 44 4 48 rfl (by omega)
  rw [show ((4 : Nat) : Int) = 4 from rfl] at h13
  simp only [h13] at u13
  have u14 : ∀ g, _ := fun g => rU32_c g (s.extract 48 s.size) 0
  have h14 := rdAt s 48 4 52 rfl (by omega)
  rw [show ((4 : Nat) : Int) = 4 from rfl] at h14
  simp only [h14] at u14
  have u15 : ∀ g, _ := fun g => Take_c g (s.extract 52 s.size) 0 16
  have h15 := rdAt s 52 16 68 rfl (by omega)
  rw [show ((16 : Nat) : Int) = 16 from rfl] at h15
  simp only [h15] at u15
  have u16 : ∀ g, _ := fun g => Take_c g (s.extract 68 s.size) 0 16
  have h16 := rdAt s 68 16 84 rfl (by omega)
  rw [show ((16 : Nat) : Int) = 16 from rfl] at h16
  simp only [h16] at u16
  have uE : ∀ g, _ := fun g => End_c g (s.extract 84 s.size) 0
  have hz : (s.extract 84 s.size).size = s.size - 84 := ext_size0 s 84 s.size (Nat.le_refl _)
  clear h1
  generalize hp1 : s.extract 0 8 = p1 at u1
  generalize hs1 : s.extract 8 s.size = s1 at u1 u2
  clear h2
  generalize hp2 : s.extract 8 12 = p2 at u2
  generalize hs2 : s.extract 12 s.size = s2 at u2 u3
  clear h3
  generalize hp3 : s.extract 12 16 = p3 at u3
  generalize hs3 : s.extract 16 s.size = s3 at u3 u4
  clear h4
  generalize hp4 : s.extract 16 20 = p4 at u4
  generalize hs4 : s.extract 20 s.size = s4 at u4 u5
  clear h5
  generalize hp5 : s.extract 20 24 = p5 at u5
  generalize hs5 : s.extract 24 s.size = s5 at u5 u6
  clear h6
  generalize hp6 : s.extract 24 28 = p6 at u6
  generalize hs6 : s.extract 28 s.size = s6 at u6 u7
  clear h7
  generalize hp7 : s.extract 28 32 = p7 at u7
  generalize hs7 : s.extract 32 s.size = s7 at u7 u8
  clear h8
  generalize hp8 : s.extract 32 34 = p8 at u8
  generalize hs8 : s.extract 34 s.size = s8 at u8 u9
  clear h9
  generalize hp9 : s.extract 34 36 = p9 at u9
  generalize hs9 : s.extract 36 s.size = s9 at u9 u10
  clear h10
  generalize hp10 : s.extract 36 40 = p10 at u10
  generalize hs10 : s.extract 40 s.size = s10 at u10 u11
  clear h11
  generalize hp11 : s.extract 40 42 = p11 at u11
  generalize hs11 : s.extract 42 s.size = s11 at u11 u12
  clear h12
  generalize hp12 : s.extract 42 44 = p12 at u12
  generalize hs12 : s.extract 44 s.size = s12 at u12 u13
  clear h13
  generalize hp13 : s.extract 44 48 = p13 at u13
  generalize hs13 : s.extract 48 s.size = s13 at u13 u14
  clear h14
  generalize hp14 : s.extract 48 52 = p14 at u14
  generalize hs14 : s.extract 52 s.size = s14 at u14 u15
  clear h15
  generalize hp15 : s.extract 52 68 = p15 at u15
  generalize hs15 : s.extract 68 s.size = s15 at u15 u16
  clear h16
  generalize hp16 : s.extract 68 84 = p16 at u16
  generalize hs16 : s.extract 84 s.size = s16 at u16 uE hz
  have hck : ckOf s = ⟨IntKind.i64.wrap (beN p1), beN p2, beN p3, beN p4, beN p5, beN p6, beN p7, beN p8, beN p9, beN p10, beN p11, beN p12, beN p13, beN p14, p15, p16⟩ := by unfold ckOf; rw [hp1, hp2, hp3, hp4, hp5, hp6, hp7, hp8, hp9, hp10, hp11, hp12, hp13, hp14, hp15, hp16]
  rw [hck]
  generalize hcv : (⟨IntKind.i64.wrap (beN p1), beN p2, beN p3, beN p4, beN p5, beN p6, beN p7, beN p8, beN p9, beN p10, beN p11, beN p12, beN p13, beN p14, p15, p16⟩ : Ck) = cc
  have hcc : cc.v = .agg #[.int .i64 (IntKind.i64.wrap (beN p1)), .int .u32 (beN p2), .int .u32 (beN p3), .int .u32 (beN p4), .int .u32 (beN p5), .int .u32 (beN p6), .int .u32 (beN p7), .int .i64 (beN p8), .int .i64 (beN p9), .int .u32 (beN p10), .int .i64 (beN p11), .int .i64 (beN p12), .int .u32 (beN p13), .int .u32 (beN p14), .string (p15), .string (p16)] := by rw [← hcv]; rfl
  have hM := May_c cc
  rw [hcc] at hM
  rw [hcc]
  clear hp1 hs1
  clear hp2 hs2
  clear hp3 hs3
  clear hp4 hs4
  clear hp5 hs5
  clear hp6 hs6
  clear hp7 hs7
  clear hp8 hs8
  clear hp9 hs9
  clear hp10 hs10
  clear hp11 hs11
  clear hp12 hs12
  clear hp13 hs13
  clear hp14 hs14
  clear hp15 hs15
  clear hp16 hs16
  clear hck hcv hcc
  by_cases h84 : s.size = 84
  · have hz0 : s16.size = 0 := by omega
    simp only [hz0, if_true] at uE
    cases hm : cc.may
    case true =>
      rw [if_pos ⟨h84, rfl⟩]
      rw [hm] at hM
      refine ctr_ Try.func98 rfl Try.ntmps98 rfl fun E R => ?_
      repeat' (first | (apply gCa_; first | refine w_cg (New_c _) (k := fun _ => ?_) | refine w_cd (u1 _) (k := ?_) | refine w_cd (u2 _) (k := ?_) | refine w_cd (u3 _) (k := ?_) | refine w_cd (u4 _) (k := ?_) | refine w_cd (u5 _) (k := ?_) | refine w_cd (u6 _) (k := ?_) | refine w_cd (u7 _) (k := ?_) | refine w_cd (u8 _) (k := ?_) | refine w_cd (u9 _) (k := ?_) | refine w_cd (u10 _) (k := ?_) | refine w_cd (u11 _) (k := ?_) | refine w_cd (u12 _) (k := ?_) | refine w_cd (u13 _) (k := ?_) | refine w_cd (u14 _) (k := ?_) | refine w_cd (u15 _) (k := ?_) | refine w_cd (u16 _) (k := ?_) | refine w_cd (uE _) (k := ?_) | refine w_cd (hM) (k := ?_)) | (first | (apply gMv_; refine w_mv (k := ?_)) | (apply gN_; first | refine nxt_ ?_ | refine rend_ ?_ | refine nxtD_ rfl ?_ | refine rendD_ (by kernel_rfl) ?_ | refine nxtT_ rfl ?_ | refine rendT_ (by kernel_rfl) ?_ | refine fk_ ?_ | refine nxtF_ (by kernel_rfl) rfl rfl ?_ ?_ | refine nxtF3_ (by kernel_rfl) rfl rfl rfl ?_ ?_ ?_) | (apply gLd_; first | refine w_ld (k := ?_) | refine w_lA (k := ?_) | refine w_lr (k := ?_) | refine w_lvc (k := ?_) | refine w_lvA (k := ?_) | refine w_l2 (k := ?_)) | (apply gG_; first | refine w_on (k := ?_) | refine w_of (k := ?_) | refine gcaseD_ rfl rfl rfl (fun h h' => ?_) (fun h h' => ?_) | refine gcaseE_ rfl rfl rfl (fun h h' => ?_) (fun h h' => ?_) | refine gcaseN_ rfl rfl rfl (fun h h' => ?_) (fun h h' => ?_) | refine gcase_ rfl rfl rfl (fun h => ?_) (fun h => ?_)) | (apply gSt_; first | refine w_st (k := ?_) | refine w_sA (k := ?_)) | (apply cSeq_; refine seq_ ?_) | (apply cReg_; refine region_ ?_) | (apply cIf_; first | refine ifT_ rfl ?_ | refine ifF_ rfl ?_ | refine ifB_ rfl (by assumption) ?_ | refine ifC_ rfl (by assumption) ?_ | refine ifD_ rfl (fun h => ?_) (fun h => ?_) | refine ifE_ rfl (fun h => ?_) (fun h => ?_) | refine ifN_ rfl (fun h => ?_) (fun h => ?_) | refine if_ rfl (fun h => ?_) (fun h => ?_)) | (apply gBd_; refine w_bd (k := ?_)) | (apply gBs_; refine w_bs (k := fun _ => ?_)) | (apply gBx_; refine w_bx (k := fun _ => ?_)) | (apply gAl_; refine w_al (k := fun _ => ?_)) | (apply gCv_; first | refine w_cv (k := ?_) | refine w_cB (kk := ?_) | refine w_cB2 (kk := ?_)) | (apply gAs_; refine w_as (k := ?_)) | (apply gFa_; refine w_fa (k := ?_)) | (apply gBi_; refine w_bi (k := ?_)) | (apply gPi_; refine w_pi (k := ?_)) | (apply gNc_; refine w_nc (k := ?_)) | (apply gXt_; refine w_xt (k := ?_)) | (apply gCB_; first | refine w_cb (k := ?_) | refine w_ap1 (k' := fun _ _ _ => ?_)) | (apply gUn_; refine w_un (k := ?_)) | (apply gFl_; refine w_fl (k := ?_)) | (apply gSl_; first | refine w_sV (k := ?_) | refine w_sl (k := ?_)) | (apply gIx_; refine w_ix (k := ?_)) | (apply gIa_; refine w_iA (k := ?_)) | (apply gMf_; refine w_mf (k := ?_)) | (apply cSkip_; refine skip_ ?_) | (apply cBlock_; refine block_ ?_) | (apply cBlk_; refine blk_ ?_) | (apply cExit_; refine exit_ rfl ?_)))
      exact e_rets
    case false =>
      rw [if_neg (by simp)]
      rw [hm] at hM
      refine ctr_ Try.func98 rfl Try.ntmps98 rfl fun E R => ?_
      repeat' (first | (apply gCa_; first | refine w_cg (New_c _) (k := fun _ => ?_) | refine w_cd (u1 _) (k := ?_) | refine w_cd (u2 _) (k := ?_) | refine w_cd (u3 _) (k := ?_) | refine w_cd (u4 _) (k := ?_) | refine w_cd (u5 _) (k := ?_) | refine w_cd (u6 _) (k := ?_) | refine w_cd (u7 _) (k := ?_) | refine w_cd (u8 _) (k := ?_) | refine w_cd (u9 _) (k := ?_) | refine w_cd (u10 _) (k := ?_) | refine w_cd (u11 _) (k := ?_) | refine w_cd (u12 _) (k := ?_) | refine w_cd (u13 _) (k := ?_) | refine w_cd (u14 _) (k := ?_) | refine w_cd (u15 _) (k := ?_) | refine w_cd (u16 _) (k := ?_) | refine w_cd (uE _) (k := ?_) | refine w_cd (hM) (k := ?_)) | (first | (apply gMv_; refine w_mv (k := ?_)) | (apply gN_; first | refine nxt_ ?_ | refine rend_ ?_ | refine nxtD_ rfl ?_ | refine rendD_ (by kernel_rfl) ?_ | refine nxtT_ rfl ?_ | refine rendT_ (by kernel_rfl) ?_ | refine fk_ ?_ | refine nxtF_ (by kernel_rfl) rfl rfl ?_ ?_ | refine nxtF3_ (by kernel_rfl) rfl rfl rfl ?_ ?_ ?_) | (apply gLd_; first | refine w_ld (k := ?_) | refine w_lA (k := ?_) | refine w_lr (k := ?_) | refine w_lvc (k := ?_) | refine w_lvA (k := ?_) | refine w_l2 (k := ?_)) | (apply gG_; first | refine w_on (k := ?_) | refine w_of (k := ?_) | refine gcaseD_ rfl rfl rfl (fun h h' => ?_) (fun h h' => ?_) | refine gcaseE_ rfl rfl rfl (fun h h' => ?_) (fun h h' => ?_) | refine gcaseN_ rfl rfl rfl (fun h h' => ?_) (fun h h' => ?_) | refine gcase_ rfl rfl rfl (fun h => ?_) (fun h => ?_)) | (apply gSt_; first | refine w_st (k := ?_) | refine w_sA (k := ?_)) | (apply cSeq_; refine seq_ ?_) | (apply cReg_; refine region_ ?_) | (apply cIf_; first | refine ifT_ rfl ?_ | refine ifF_ rfl ?_ | refine ifB_ rfl (by assumption) ?_ | refine ifC_ rfl (by assumption) ?_ | refine ifD_ rfl (fun h => ?_) (fun h => ?_) | refine ifE_ rfl (fun h => ?_) (fun h => ?_) | refine ifN_ rfl (fun h => ?_) (fun h => ?_) | refine if_ rfl (fun h => ?_) (fun h => ?_)) | (apply gBd_; refine w_bd (k := ?_)) | (apply gBs_; refine w_bs (k := fun _ => ?_)) | (apply gBx_; refine w_bx (k := fun _ => ?_)) | (apply gAl_; refine w_al (k := fun _ => ?_)) | (apply gCv_; first | refine w_cv (k := ?_) | refine w_cB (kk := ?_) | refine w_cB2 (kk := ?_)) | (apply gAs_; refine w_as (k := ?_)) | (apply gFa_; refine w_fa (k := ?_)) | (apply gBi_; refine w_bi (k := ?_)) | (apply gPi_; refine w_pi (k := ?_)) | (apply gNc_; refine w_nc (k := ?_)) | (apply gXt_; refine w_xt (k := ?_)) | (apply gCB_; first | refine w_cb (k := ?_) | refine w_ap1 (k' := fun _ _ _ => ?_)) | (apply gUn_; refine w_un (k := ?_)) | (apply gFl_; refine w_fl (k := ?_)) | (apply gSl_; first | refine w_sV (k := ?_) | refine w_sl (k := ?_)) | (apply gIx_; refine w_ix (k := ?_)) | (apply gIa_; refine w_iA (k := ?_)) | (apply gMf_; refine w_mf (k := ?_)) | (apply cSkip_; refine skip_ ?_) | (apply cBlock_; refine block_ ?_) | (apply cBlk_; refine blk_ ?_) | (apply cExit_; refine exit_ rfl ?_)))
      exact e_rets
  · have hz0 : ¬ s16.size = 0 := by omega
    simp only [if_true, if_neg hz0] at uE
    rw [if_neg (fun x => h84 x.1)]
    refine ctr_ Try.func98 rfl Try.ntmps98 rfl fun E R => ?_
    repeat' (first | (apply gCa_; first | refine w_cg (New_c _) (k := fun _ => ?_) | refine w_cd (u1 _) (k := ?_) | refine w_cd (u2 _) (k := ?_) | refine w_cd (u3 _) (k := ?_) | refine w_cd (u4 _) (k := ?_) | refine w_cd (u5 _) (k := ?_) | refine w_cd (u6 _) (k := ?_) | refine w_cd (u7 _) (k := ?_) | refine w_cd (u8 _) (k := ?_) | refine w_cd (u9 _) (k := ?_) | refine w_cd (u10 _) (k := ?_) | refine w_cd (u11 _) (k := ?_) | refine w_cd (u12 _) (k := ?_) | refine w_cd (u13 _) (k := ?_) | refine w_cd (u14 _) (k := ?_) | refine w_cd (u15 _) (k := ?_) | refine w_cd (u16 _) (k := ?_) | refine w_cd (uE _) (k := ?_) | refine w_cd (hM) (k := ?_)) | (first | (apply gMv_; refine w_mv (k := ?_)) | (apply gN_; first | refine nxt_ ?_ | refine rend_ ?_ | refine nxtD_ rfl ?_ | refine rendD_ (by kernel_rfl) ?_ | refine nxtT_ rfl ?_ | refine rendT_ (by kernel_rfl) ?_ | refine fk_ ?_ | refine nxtF_ (by kernel_rfl) rfl rfl ?_ ?_ | refine nxtF3_ (by kernel_rfl) rfl rfl rfl ?_ ?_ ?_) | (apply gLd_; first | refine w_ld (k := ?_) | refine w_lA (k := ?_) | refine w_lr (k := ?_) | refine w_lvc (k := ?_) | refine w_lvA (k := ?_) | refine w_l2 (k := ?_)) | (apply gG_; first | refine w_on (k := ?_) | refine w_of (k := ?_) | refine gcaseD_ rfl rfl rfl (fun h h' => ?_) (fun h h' => ?_) | refine gcaseE_ rfl rfl rfl (fun h h' => ?_) (fun h h' => ?_) | refine gcaseN_ rfl rfl rfl (fun h h' => ?_) (fun h h' => ?_) | refine gcase_ rfl rfl rfl (fun h => ?_) (fun h => ?_)) | (apply gSt_; first | refine w_st (k := ?_) | refine w_sA (k := ?_)) | (apply cSeq_; refine seq_ ?_) | (apply cReg_; refine region_ ?_) | (apply cIf_; first | refine ifT_ rfl ?_ | refine ifF_ rfl ?_ | refine ifB_ rfl (by assumption) ?_ | refine ifC_ rfl (by assumption) ?_ | refine ifD_ rfl (fun h => ?_) (fun h => ?_) | refine ifE_ rfl (fun h => ?_) (fun h => ?_) | refine ifN_ rfl (fun h => ?_) (fun h => ?_) | refine if_ rfl (fun h => ?_) (fun h => ?_)) | (apply gBd_; refine w_bd (k := ?_)) | (apply gBs_; refine w_bs (k := fun _ => ?_)) | (apply gBx_; refine w_bx (k := fun _ => ?_)) | (apply gAl_; refine w_al (k := fun _ => ?_)) | (apply gCv_; first | refine w_cv (k := ?_) | refine w_cB (kk := ?_) | refine w_cB2 (kk := ?_)) | (apply gAs_; refine w_as (k := ?_)) | (apply gFa_; refine w_fa (k := ?_)) | (apply gBi_; refine w_bi (k := ?_)) | (apply gPi_; refine w_pi (k := ?_)) | (apply gNc_; refine w_nc (k := ?_)) | (apply gXt_; refine w_xt (k := ?_)) | (apply gCB_; first | refine w_cb (k := ?_) | refine w_ap1 (k' := fun _ _ _ => ?_)) | (apply gUn_; refine w_un (k := ?_)) | (apply gFl_; refine w_fl (k := ?_)) | (apply gSl_; first | refine w_sV (k := ?_) | refine w_sl (k := ?_)) | (apply gIx_; refine w_ix (k := ?_)) | (apply gIa_; refine w_iA (k := ?_)) | (apply gMf_; refine w_mf (k := ?_)) | (apply cSkip_; refine skip_ ?_) | (apply cBlock_; refine block_ ?_) | (apply cBlk_; refine blk_ ?_) | (apply cExit_; refine exit_ rfl ?_)))
    exact e_rets
end Go.Proofs.Ytpghbkkjdfaflaa
