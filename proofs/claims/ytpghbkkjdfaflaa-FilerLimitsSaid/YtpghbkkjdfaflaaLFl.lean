/- FilerLimits: the law's walk. -/
import Derived.Test.YtpghbkkjdfaflaaFib
namespace Go.Proofs.Ytpghbkkjdfaflaa
open Go.SL
attribute [local irreducible] Val ValS Does WN WB WK Sat Ctr Wn Tfin
set_option linter.unusedVariables false
set_option linter.unusedSimpArgs false
open Go.RowKit
attribute [local irreducible] be
/-- Objects of one byte each, numbered. -/
def objsN (n : Nat) : List (Int × ByteArray) := (List.range n).map fun (j : Nat) => ((j : Int), (⟨#[120]⟩ : ByteArray))
def zerosN (n : Nat) : List Int := List.replicate n 0
theorem objsN_len (n : Nat) : (objsN n).length = n := by simp [objsN]
theorem zerosN_len (n : Nat) : (zerosN n).length = n := by simp [zerosN]
theorem objsN_succ (n : Nat) : objsN n ++ [((n : Int), (⟨#[120]⟩ : ByteArray))] = objsN (n + 1) := by simp [objsN, List.range_succ]
theorem zerosN_succ (n : Nat) : zerosN n ++ [0] = zerosN (n + 1) := by simp [zerosN, List.replicate_succ']
theorem objsN_any (n i : Nat) (h : n ≤ i) : ((objsN n).any fun x => x.1 == (i : Int)) = false := by
  rw [List.any_eq_false]
  intro x hx
  simp only [objsN, List.mem_map, List.mem_range] at hx
  obtain ⟨j, hj, rfl⟩ := hx
  simp
  omega
def sndL (s : Nat) (l : SPl) (n : Nat) : List SA :=
  [blk s (.cells #[.slice l.p n l.c, .slice l.p2 n l.c2, .int .i64 0] 150 (0, 0)), vec l.p n l.c 29 2 (rowsL rowO (objsN n)), vec l.p2 n l.c2 3 1 (rowsL rowI (zerosN n))]
theorem sndL_eq (s : Nat) (l : SPl) (n : Nat) : snd s l (objsN n) (zerosN n) 0 = sndL s l n := by unfold snd sndL; rw [objsN_len, zerosN_len]
theorem NewL_c : Ctr Try.prog 26 [] [] (fun v L => ∃ s, v = ptr s ∧ L = sndL s ⟨none, 0, none, 0⟩ 0) := NewS_c
theorem PutL_c (s : Nat) (l : SPl) (n : Nat) (h : n < 16) : Ctr Try.prog 27 [ptr s, objV ((n : Int), ⟨#[120]⟩)] (sndL s l n) (fun v L => ∃ l', v = .int .i64 0 ∧ L = sndL s l' (n + 1)) := by
  have := Put_ok_c s l (objsN n) (zerosN n) 0 ((n : Int), ⟨#[120]⟩) (show ((⟨#[120]⟩ : ByteArray).size : Int) ≤ 20000 by decide) (objsN_any n n (Nat.le_refl _)) (by rw [objsN_len]; exact h) (by rw [objsN_len, zerosN_len])
  rw [sndL_eq, objsN_succ, zerosN_succ] at this
  simp only [sndL_eq] at this
  exact this
theorem PutLF_c (s : Nat) (l : SPl) (i : Nat) (h : 16 ≤ i) : Ctr Try.prog 27 [ptr s, objV ((i : Int), ⟨#[120]⟩)] (sndL s l 16) (fun v L => v = .int .i64 6 ∧ L = sndL s l 16) := by
  have := PutFull_c s l (objsN 16) (zerosN 16) 0 ((i : Int), ⟨#[120]⟩) (show ((⟨#[120]⟩ : ByteArray).size : Int) ≤ 20000 by decide) (by rw [objsN_len]; omega) (objsN_any 16 i h) (by rw [objsN_len]; omega)
  rwa [sndL_eq] at this
/-- Objects that wait, numbered, each of 900 bytes. -/
structure Wait (n : Nat) (xs : List Part) : Prop where
  len : xs.length = n
  at_ : ∀ (j : Nat) x, xs[j]? = some x → x.id = j ∧ x.all = 900
theorem Wait.no {n i : Nat} {xs : List Part} (h : Wait n xs) (hi : n ≤ i) : ∀ x ∈ xs, x.id ≠ (i : Int) := fun x hx => by
  obtain ⟨j, hj⟩ := List.mem_iff_getElem?.1 hx
  have h1 := (h.at_ j x hj).1
  have h2 := (List.getElem?_eq_some_iff.1 hj).1
  have h3 := h.len
  omega
theorem Wait.app {n : Nat} {xs : List Part} (h : Wait n xs) (g : Nat) : Wait (n + 1) (xs ++ [⟨g, (n : Int), 900⟩]) := ⟨by simp [h.len], fun j x hj => by
  have hl := h.len
  rcases Nat.lt_or_ge j xs.length with hlt | hge
  · rw [List.getElem?_append_left hlt] at hj
    exact h.at_ j x hj
  · rw [List.getElem?_append_right hge] at hj
    have h0 : j - xs.length = 0 := by
      rcases Nat.eq_zero_or_pos (j - xs.length) with h | h
      · exact h
      · rw [List.getElem?_eq_none (by simp; omega)] at hj; cases hj
    rw [h0] at hj
    simp only [List.getElem?_cons_zero, Option.some.injEq] at hj
    subst hj
    exact ⟨by simp only; omega, rfl⟩⟩
def rcvL (r : Nat) (p : Option Addr) (n c : Nat) (xs : List Part) : List SA := [rcv r p n c, vec p n c 129 1 (rowsL pg xs), partsRO xs]
section
variable (r : Nat) (p : Option Addr) (c n : Nat) (xs : List Part) (Z : ByteArray) (z : Nat) (hZ : Z.size = z) (hz0 : 500 < z) (hz1 : z ≤ 20000)
include hZ hz0 hz1
theorem pieceZ_c (i : Int) : Ctr Try.prog 28 [objV (i, Z), .int .i64 0] [] (fun v L => v = .string (pieceB i z 0 (Z.extract 0 500)) ∧ L = []) := by
  have := Piece_c (i, Z) 0 (by omega) (by simp only; omega) (by simp only; omega)
  simp only at this
  rw [hZ] at this
  have e : (min (0 + 500) (z : Int)).toNat = 500 := by omega
  rw [e] at this
  exact this
theorem parseZ_c (i : Int) (i0 : 0 ≤ i) (i1 : i < 4294967296) : (Z.extract 0 500).size = 500 ∧ Ctr Try.prog 66 [.string (pieceB i z 0 (Z.extract 0 500))] [] (fun v L => v = .tuple #[pieceV i z 0 (Z.extract 0 500), .bool true] ∧ L = []) := by
  have hs := ext_size0 Z 0 500 (by omega)
  have hp := parse_c i z 0 (Z.extract 0 500) i0 i1 (by omega) (by omega) (by omega) (by omega) (by omega)
  have hok : okP z 0 (Z.extract 0 500) := by unfold okP; omega
  rw [if_pos hok, decide_eq_true hok] at hp
  exact ⟨hs, hp⟩
theorem takeL_new (hw : Wait n xs) (h : n < 16) : Ctr Try.prog 17 [ptr r, .string (pieceB n z 0 (Z.extract 0 500))] (rcvL r p n c xs) (fun v L => ∃ q : Nat × Option Addr × Nat, v = .tuple #[obj0, .bool false, .int .i64 0] ∧ L = rcvL r q.2.1 (n + 1) q.2.2 (xs ++ [⟨q.1, n, z⟩])) := by
  obtain ⟨hs, hp⟩ := parseZ_c Z z hZ hz0 hz1 n (by omega) (by omega)
  have hl := hw.len
  have := TakeNew_c r p c xs n z 0 (Z.extract 0 500) _ (by omega) (hw.no (Nat.le_refl _)) (by omega) (by omega) hp
  unfold recv at this
  rw [hl] at this
  refine ctr_post this ?_
  rintro v L ⟨g, p', c', rfl, rfl⟩
  exact ⟨_, ⟨(g, p', c'), rfl, rfl⟩, fun E R w hw => hw⟩
theorem takeL_full (hw : Wait 16 xs) (i : Nat) (hi : 16 ≤ i) (hi2 : i < 1000) : Ctr Try.prog 17 [ptr r, .string (pieceB i z 0 (Z.extract 0 500))] (rcvL r p 16 c xs) (fun v L => v = .tuple #[obj0, .bool false, .int .i64 6] ∧ L = rcvL r p 16 c xs) := by
  obtain ⟨hs, hp⟩ := parseZ_c Z z hZ hz0 hz1 i (by omega) (by omega)
  have hl := hw.len
  have := TakeFull_c r p c xs i z 0 (Z.extract 0 500) _ (by omega) (by omega) (hw.no hi) hp
  unfold recv at this
  rw [hl] at this
  exact this
theorem takeL_other (hw : Wait n xs) (h0 : 0 < n) (h16 : n ≤ 16) (hne : (z : Int) ≠ 900) : Ctr Try.prog 17 [ptr r, .string (pieceB 0 z 0 (Z.extract 0 500))] (rcvL r p n c xs) (fun v L => v = .tuple #[obj0, .bool false, .int .i64 3] ∧ L = rcvL r p n c xs) := by
  obtain ⟨hs, hp⟩ := parseZ_c Z z hZ hz0 hz1 0 (by omega) (by omega)
  have hl := hw.len
  obtain ⟨x, hx⟩ : ∃ x, xs[0]? = some x := ⟨xs[0]'(by omega), List.getElem?_eq_getElem (by omega)⟩
  obtain ⟨h1, h2⟩ := hw.at_ 0 x hx
  have := TakeOther_c r p c xs 0 z 0 (Z.extract 0 500) _ (by omega) 0 x hx h1 (by simp) (by rw [h2]; exact fun e => hne e.symm) hp
  unfold recv at this
  rw [hl] at this
  exact this
end
set_option maxRecDepth 20000 in
set_option maxHeartbeats 8000000 in
theorem limits_c (x : Int) : Ctr Try.prog 5 [.int .i64 x] [] (fun v L => v = .bool true ∧ L = []) := by
  have hx : 0 ≤ bits .and .i64 x 31 ∧ bits .and .i64 x 31 ≤ 31 := and_low x 31 (by omega)
  refine ctr_ Try.func5 rfl Try.ntmps5 rfl fun E R => ?_
  have hNew := NewL_c
  simp only [sndL] at hNew
  repeat' (first | (apply gCv_; refine w_cvV (k := ?_)) | (refine w_mk byteRow 0 (k' := fun _ => ?_)) | (apply gCv_; refine w_cvn (k := ?_)) | (apply gBi_; first | refine w_bsE (k := ?_) | refine w_cat (k := ?_)) | (apply gCa_; first | refine w_cg (hNew) (k := fun _ => ?_) | refine w_cg (NewR_c) (k := fun _ => ?_)) | (first | (apply gMv_; refine w_mv (k := ?_)) | (apply gN_; first | refine nxt_ ?_ | refine rend_ ?_ | refine nxtD_ rfl ?_ | refine rendD_ (by kernel_rfl) ?_ | refine nxtT_ rfl ?_ | refine rendT_ (by kernel_rfl) ?_ | refine fk_ ?_ | refine nxtF_ (by kernel_rfl) rfl rfl ?_ ?_ | refine nxtF3_ (by kernel_rfl) rfl rfl rfl ?_ ?_ ?_) | (apply gLd_; first | refine w_ld (k := ?_) | refine w_lA (k := ?_) | refine w_lr (k := ?_) | refine w_lvc (k := ?_) | refine w_lvA (k := ?_) | refine w_l2 (k := ?_)) | (apply gG_; first | refine w_on (k := ?_) | refine w_of (k := ?_) | refine gcaseD_ rfl rfl rfl (fun h h' => ?_) (fun h h' => ?_) | refine gcaseE_ rfl rfl rfl (fun h h' => ?_) (fun h h' => ?_) | refine gcaseN_ rfl rfl rfl (fun h h' => ?_) (fun h h' => ?_) | refine gcase_ rfl rfl rfl (fun h => ?_) (fun h => ?_)) | (apply gSt_; first | refine w_st (k := ?_) | refine w_sA (k := ?_)) | (apply cSeq_; refine seq_ ?_) | (apply cReg_; refine region_ ?_) | (apply cIf_; first | refine ifT_ rfl ?_ | refine ifF_ rfl ?_ | refine ifB_ rfl (by assumption) ?_ | refine ifC_ rfl (by assumption) ?_ | refine ifD_ rfl (fun h => ?_) (fun h => ?_) | refine ifE_ rfl (fun h => ?_) (fun h => ?_) | refine ifN_ rfl (fun h => ?_) (fun h => ?_) | refine if_ rfl (fun h => ?_) (fun h => ?_)) | (apply gBd_; refine w_bd (k := ?_)) | (apply gBs_; refine w_bs (k := fun _ => ?_)) | (apply gBx_; refine w_bx (k := fun _ => ?_)) | (apply gAl_; refine w_al (k := fun _ => ?_)) | (apply gCv_; first | refine w_cv (k := ?_) | refine w_cB (kk := ?_) | refine w_cB2 (kk := ?_)) | (apply gAs_; refine w_as (k := ?_)) | (apply gFa_; refine w_fa (k := ?_)) | (apply gBi_; refine w_bi (k := ?_)) | (apply gPi_; refine w_pi (k := ?_)) | (apply gNc_; refine w_nc (k := ?_)) | (apply gXt_; refine w_xt (k := ?_)) | (apply gCB_; first | refine w_cb (k := ?_) | refine w_ap1 (k' := fun _ _ _ => ?_)) | (apply gUn_; refine w_un (k := ?_)) | (apply gFl_; refine w_fl (k := ?_)) | (apply gSl_; first | refine w_sV (k := ?_) | refine w_sl (k := ?_)) | (apply gIx_; refine w_ix (k := ?_)) | (apply gIa_; refine w_iA (k := ?_)) | (apply gMf_; refine w_mf (k := ?_)) | (apply cSkip_; refine skip_ ?_) | (apply cBlock_; refine block_ ?_) | (apply cBlk_; refine blk_ ?_) | (apply cExit_; refine exit_ rfl ?_)))
  rename_i s r g t5
  have hG : (byt (List.replicate (Int.toNat 20001) 0)).size = 20001 := by rw [byt_size, List.length_replicate]; rfl
  generalize byt (List.replicate (Int.toNat 20001) 0) = G at *
  generalize bits .and .i64 x 31 = z at *
  obtain ⟨k, rfl⟩ := Int.eq_ofNat_of_zero_le hx.1
  refine vnil_ (e := 129) (sz := 1) (wk_imp (fun w hw => parts_nil hw) ?_)
  simp only [List.cons_append, List.nil_append, List.append_nil]
  refine loop_ (M := sndL s ⟨none, 0, none, 0⟩ 0 ++ rcvL r none 0 0 [] ++ [blk t5 (.cells #[.int .u32 1, .string G] 29 (0, 0)), R])
    (fun m env L => ∃ (i n : Nat) (l : SPl) (p : Option Addr) (c : Nat) (xs : List Part), m = k - i ∧ i ≤ k ∧ n = min i 16 ∧ Wait n xs ∧
      env = [(3, ptr s), (4, ptr r), (5, .pointer (some ⟨t5, 0, none⟩)), (6, .int .i64 k), (7, .int .i64 i)] ∧
      L = sndL s l n ++ rcvL r p n c xs ++ [blk t5 (.cells #[.int .u32 1, .string G] 29 (0, 0)), R])
    k [3, 4, 5, 6, 7] rfl ?_ ⟨0, 0, ⟨none, 0, none, 0⟩, none, 0, [], rfl, Nat.zero_le _, by omega, ⟨rfl, fun j x h => by simp at h⟩, rfl, rfl⟩ ?_
  · simp only [sndL, rcvL, List.cons_append, List.nil_append]
    ((repeat (first | exact .nil | ((first | apply Sel.cons | apply Cut.cons); repeat (first | exact .head | apply Pl.tail)))); first | done | fail)
  rintro m env L ⟨i, n, l, p, c, xs, hm, hi, hn, hw, rfl, rfl⟩
  simp only [sndL, rcvL, List.cons_append, List.nil_append]
  by_cases hik : i < k
  · have d1 : decide ((i : Int) < (k : Int)) = true := decide_eq_true (by omega)
    by_cases h16 : i < 16
    · obtain rfl : n = i := by omega
      have d2 : decide ((n : Int) ≥ 16) = false := decide_eq_false (by omega)
      have hP := PutL_c s l n h16
      have hT := fun Z (hZ : Z.size = 900) => takeL_new r p c n xs Z 900 hZ (by omega) (by omega) hw h16
      have hPc := fun Z (hZ : Z.size = 900) => pieceZ_c Z 900 hZ (by omega) (by omega) (n : Int)
      simp only [sndL, rcvL] at hP hT
      repeat' (first | (apply gCv_; refine w_cvV (k := ?_)) | (refine w_mk byteRow 0 (k' := fun _ => ?_)) | (apply gCv_; refine w_cvn (k := ?_)) | (apply gBi_; first | refine w_bsE (k := ?_) | refine w_cat (k := ?_)) | (apply gCa_; first | refine w_cg (hP) (k := fun _ => ?_)) | (first | (apply gMv_; refine w_mv (k := ?_)) | (apply gN_; first | refine nxt_ ?_ | refine rend_ ?_ | refine nxtD_ rfl ?_ | refine rendD_ (by kernel_rfl) ?_ | refine nxtT_ rfl ?_ | refine rendT_ (by kernel_rfl) ?_ | refine fk_ ?_ | refine nxtF_ (by kernel_rfl) rfl rfl ?_ ?_ | refine nxtF3_ (by kernel_rfl) rfl rfl rfl ?_ ?_ ?_) | (apply gLd_; first | refine w_ld (k := ?_) | refine w_lA (k := ?_) | refine w_lr (k := ?_) | refine w_lvc (k := ?_) | refine w_lvA (k := ?_) | refine w_l2 (k := ?_)) | (apply gG_; first | refine w_on (k := ?_) | refine w_of (k := ?_) | refine gcaseD_ rfl rfl rfl (fun h h' => ?_) (fun h h' => ?_) | refine gcaseE_ rfl rfl rfl (fun h h' => ?_) (fun h h' => ?_) | refine gcaseN_ rfl rfl rfl (fun h h' => ?_) (fun h h' => ?_) | refine gcase_ rfl rfl rfl (fun h => ?_) (fun h => ?_)) | (apply gSt_; first | refine w_st (k := ?_) | refine w_sA (k := ?_)) | (apply cSeq_; refine seq_ ?_) | (apply cReg_; refine region_ ?_) | (apply cIf_; first | refine ifT_ rfl ?_ | refine ifF_ rfl ?_ | refine ifB_ rfl (by assumption) ?_ | refine ifC_ rfl (by assumption) ?_ | refine ifD_ rfl (fun h => ?_) (fun h => ?_) | refine ifE_ rfl (fun h => ?_) (fun h => ?_) | refine ifN_ rfl (fun h => ?_) (fun h => ?_) | refine if_ rfl (fun h => ?_) (fun h => ?_)) | (apply gBd_; refine w_bd (k := ?_)) | (apply gBs_; refine w_bs (k := fun _ => ?_)) | (apply gBx_; refine w_bx (k := fun _ => ?_)) | (apply gAl_; refine w_al (k := fun _ => ?_)) | (apply gCv_; first | refine w_cv (k := ?_) | refine w_cB (kk := ?_) | refine w_cB2 (kk := ?_)) | (apply gAs_; refine w_as (k := ?_)) | (apply gFa_; refine w_fa (k := ?_)) | (apply gBi_; refine w_bi (k := ?_)) | (apply gPi_; refine w_pi (k := ?_)) | (apply gNc_; refine w_nc (k := ?_)) | (apply gXt_; refine w_xt (k := ?_)) | (apply gCB_; first | refine w_cb (k := ?_) | refine w_ap1 (k' := fun _ _ _ => ?_)) | (apply gUn_; refine w_un (k := ?_)) | (apply gFl_; refine w_fl (k := ?_)) | (apply gSl_; first | refine w_sV (k := ?_) | refine w_sl (k := ?_)) | (apply gIx_; refine w_ix (k := ?_)) | (apply gIa_; refine w_iA (k := ?_)) | (apply gMf_; refine w_mf (k := ?_)) | (apply cSkip_; refine skip_ ?_) | (apply cBlock_; refine block_ ?_) | (apply cBlk_; refine blk_ ?_) | (apply cExit_; refine exit_ rfl ?_)))
      have hZ : (byt (List.replicate (Int.toNat 900) 0)).size = 900 := by rw [byt_size, List.length_replicate]; rfl
      generalize byt (List.replicate (Int.toNat 900) 0) = Z at *
      have hT := hT Z hZ
      have hPc := hPc Z hZ
      repeat' (first | (apply gCv_; refine w_cvn (k := ?_)) | (apply gBi_; first | refine w_bsE (k := ?_) | refine w_cat (k := ?_)) | (apply gCa_; first | refine w_cd (hPc) (k := ?_) | refine w_cg (hT) (k := fun _ => ?_)) | (first | (apply gMv_; refine w_mv (k := ?_)) | (apply gN_; first | refine nxt_ ?_ | refine rend_ ?_ | refine nxtD_ rfl ?_ | refine rendD_ (by kernel_rfl) ?_ | refine nxtT_ rfl ?_ | refine rendT_ (by kernel_rfl) ?_ | refine fk_ ?_ | refine nxtF_ (by kernel_rfl) rfl rfl ?_ ?_ | refine nxtF3_ (by kernel_rfl) rfl rfl rfl ?_ ?_ ?_) | (apply gLd_; first | refine w_ld (k := ?_) | refine w_lA (k := ?_) | refine w_lr (k := ?_) | refine w_lvc (k := ?_) | refine w_lvA (k := ?_) | refine w_l2 (k := ?_)) | (apply gG_; first | refine w_on (k := ?_) | refine w_of (k := ?_) | refine gcaseD_ rfl rfl rfl (fun h h' => ?_) (fun h h' => ?_) | refine gcaseE_ rfl rfl rfl (fun h h' => ?_) (fun h h' => ?_) | refine gcaseN_ rfl rfl rfl (fun h h' => ?_) (fun h h' => ?_) | refine gcase_ rfl rfl rfl (fun h => ?_) (fun h => ?_)) | (apply gSt_; first | refine w_st (k := ?_) | refine w_sA (k := ?_)) | (apply cSeq_; refine seq_ ?_) | (apply cReg_; refine region_ ?_) | (apply cIf_; first | refine ifT_ rfl ?_ | refine ifF_ rfl ?_ | refine ifB_ rfl (by assumption) ?_ | refine ifC_ rfl (by assumption) ?_ | refine ifD_ rfl (fun h => ?_) (fun h => ?_) | refine ifE_ rfl (fun h => ?_) (fun h => ?_) | refine ifN_ rfl (fun h => ?_) (fun h => ?_) | refine if_ rfl (fun h => ?_) (fun h => ?_)) | (apply gBd_; refine w_bd (k := ?_)) | (apply gBs_; refine w_bs (k := fun _ => ?_)) | (apply gBx_; refine w_bx (k := fun _ => ?_)) | (apply gAl_; refine w_al (k := fun _ => ?_)) | (apply gCv_; first | refine w_cv (k := ?_) | refine w_cB (kk := ?_) | refine w_cB2 (kk := ?_)) | (apply gAs_; refine w_as (k := ?_)) | (apply gFa_; refine w_fa (k := ?_)) | (apply gBi_; refine w_bi (k := ?_)) | (apply gPi_; refine w_pi (k := ?_)) | (apply gNc_; refine w_nc (k := ?_)) | (apply gXt_; refine w_xt (k := ?_)) | (apply gCB_; first | refine w_cb (k := ?_) | refine w_ap1 (k' := fun _ _ _ => ?_)) | (apply gUn_; refine w_un (k := ?_)) | (apply gFl_; refine w_fl (k := ?_)) | (apply gSl_; first | refine w_sV (k := ?_) | refine w_sl (k := ?_)) | (apply gIx_; refine w_ix (k := ?_)) | (apply gIa_; refine w_iA (k := ?_)) | (apply gMf_; refine w_mf (k := ?_)) | (apply cSkip_; refine skip_ ?_) | (apply cBlock_; refine block_ ?_) | (apply cBlk_; refine blk_ ?_) | (apply cExit_; refine exit_ rfl ?_)))
      exact e_stop _ [3, 4, 5, 6, 7] ⟨k - (n + 1), by omega, n + 1, n + 1, _, _, _, xs ++ [⟨_, n, 900⟩], rfl, by omega, by omega, hw.app _, rfl, rfl⟩
    · obtain rfl : n = 16 := by omega
      have d2 : decide ((i : Int) ≥ 16) = true := decide_eq_true (by omega)
      have hP := PutLF_c s l i (by omega)
      have hT := fun Z (hZ : Z.size = 900) => takeL_full r p c xs Z 900 hZ (by omega) (by omega) hw i (by omega) (by omega)
      have hPc := fun Z (hZ : Z.size = 900) => pieceZ_c Z 900 hZ (by omega) (by omega) (i : Int)
      simp only [sndL, rcvL] at hP hT
      repeat' (first | (apply gCv_; refine w_cvV (k := ?_)) | (refine w_mk byteRow 0 (k' := fun _ => ?_)) | (apply gCv_; refine w_cvn (k := ?_)) | (apply gBi_; first | refine w_bsE (k := ?_) | refine w_cat (k := ?_)) | (apply gCa_; first | refine w_cd (hP) (k := ?_)) | (first | (apply gMv_; refine w_mv (k := ?_)) | (apply gN_; first | refine nxt_ ?_ | refine rend_ ?_ | refine nxtD_ rfl ?_ | refine rendD_ (by kernel_rfl) ?_ | refine nxtT_ rfl ?_ | refine rendT_ (by kernel_rfl) ?_ | refine fk_ ?_ | refine nxtF_ (by kernel_rfl) rfl rfl ?_ ?_ | refine nxtF3_ (by kernel_rfl) rfl rfl rfl ?_ ?_ ?_) | (apply gLd_; first | refine w_ld (k := ?_) | refine w_lA (k := ?_) | refine w_lr (k := ?_) | refine w_lvc (k := ?_) | refine w_lvA (k := ?_) | refine w_l2 (k := ?_)) | (apply gG_; first | refine w_on (k := ?_) | refine w_of (k := ?_) | refine gcaseD_ rfl rfl rfl (fun h h' => ?_) (fun h h' => ?_) | refine gcaseE_ rfl rfl rfl (fun h h' => ?_) (fun h h' => ?_) | refine gcaseN_ rfl rfl rfl (fun h h' => ?_) (fun h h' => ?_) | refine gcase_ rfl rfl rfl (fun h => ?_) (fun h => ?_)) | (apply gSt_; first | refine w_st (k := ?_) | refine w_sA (k := ?_)) | (apply cSeq_; refine seq_ ?_) | (apply cReg_; refine region_ ?_) | (apply cIf_; first | refine ifT_ rfl ?_ | refine ifF_ rfl ?_ | refine ifB_ rfl (by assumption) ?_ | refine ifC_ rfl (by assumption) ?_ | refine ifD_ rfl (fun h => ?_) (fun h => ?_) | refine ifE_ rfl (fun h => ?_) (fun h => ?_) | refine ifN_ rfl (fun h => ?_) (fun h => ?_) | refine if_ rfl (fun h => ?_) (fun h => ?_)) | (apply gBd_; refine w_bd (k := ?_)) | (apply gBs_; refine w_bs (k := fun _ => ?_)) | (apply gBx_; refine w_bx (k := fun _ => ?_)) | (apply gAl_; refine w_al (k := fun _ => ?_)) | (apply gCv_; first | refine w_cv (k := ?_) | refine w_cB (kk := ?_) | refine w_cB2 (kk := ?_)) | (apply gAs_; refine w_as (k := ?_)) | (apply gFa_; refine w_fa (k := ?_)) | (apply gBi_; refine w_bi (k := ?_)) | (apply gPi_; refine w_pi (k := ?_)) | (apply gNc_; refine w_nc (k := ?_)) | (apply gXt_; refine w_xt (k := ?_)) | (apply gCB_; first | refine w_cb (k := ?_) | refine w_ap1 (k' := fun _ _ _ => ?_)) | (apply gUn_; refine w_un (k := ?_)) | (apply gFl_; refine w_fl (k := ?_)) | (apply gSl_; first | refine w_sV (k := ?_) | refine w_sl (k := ?_)) | (apply gIx_; refine w_ix (k := ?_)) | (apply gIa_; refine w_iA (k := ?_)) | (apply gMf_; refine w_mf (k := ?_)) | (apply cSkip_; refine skip_ ?_) | (apply cBlock_; refine block_ ?_) | (apply cBlk_; refine blk_ ?_) | (apply cExit_; refine exit_ rfl ?_)))
      have hZ : (byt (List.replicate (Int.toNat 900) 0)).size = 900 := by rw [byt_size, List.length_replicate]; rfl
      generalize byt (List.replicate (Int.toNat 900) 0) = Z at *
      have hT := hT Z hZ
      have hPc := hPc Z hZ
      repeat' (first | (apply gCv_; refine w_cvn (k := ?_)) | (apply gBi_; first | refine w_bsE (k := ?_) | refine w_cat (k := ?_)) | (apply gCa_; first | refine w_cd (hPc) (k := ?_) | refine w_cd (hT) (k := ?_)) | (first | (apply gMv_; refine w_mv (k := ?_)) | (apply gN_; first | refine nxt_ ?_ | refine rend_ ?_ | refine nxtD_ rfl ?_ | refine rendD_ (by kernel_rfl) ?_ | refine nxtT_ rfl ?_ | refine rendT_ (by kernel_rfl) ?_ | refine fk_ ?_ | refine nxtF_ (by kernel_rfl) rfl rfl ?_ ?_ | refine nxtF3_ (by kernel_rfl) rfl rfl rfl ?_ ?_ ?_) | (apply gLd_; first | refine w_ld (k := ?_) | refine w_lA (k := ?_) | refine w_lr (k := ?_) | refine w_lvc (k := ?_) | refine w_lvA (k := ?_) | refine w_l2 (k := ?_)) | (apply gG_; first | refine w_on (k := ?_) | refine w_of (k := ?_) | refine gcaseD_ rfl rfl rfl (fun h h' => ?_) (fun h h' => ?_) | refine gcaseE_ rfl rfl rfl (fun h h' => ?_) (fun h h' => ?_) | refine gcaseN_ rfl rfl rfl (fun h h' => ?_) (fun h h' => ?_) | refine gcase_ rfl rfl rfl (fun h => ?_) (fun h => ?_)) | (apply gSt_; first | refine w_st (k := ?_) | refine w_sA (k := ?_)) | (apply cSeq_; refine seq_ ?_) | (apply cReg_; refine region_ ?_) | (apply cIf_; first | refine ifT_ rfl ?_ | refine ifF_ rfl ?_ | refine ifB_ rfl (by assumption) ?_ | refine ifC_ rfl (by assumption) ?_ | refine ifD_ rfl (fun h => ?_) (fun h => ?_) | refine ifE_ rfl (fun h => ?_) (fun h => ?_) | refine ifN_ rfl (fun h => ?_) (fun h => ?_) | refine if_ rfl (fun h => ?_) (fun h => ?_)) | (apply gBd_; refine w_bd (k := ?_)) | (apply gBs_; refine w_bs (k := fun _ => ?_)) | (apply gBx_; refine w_bx (k := fun _ => ?_)) | (apply gAl_; refine w_al (k := fun _ => ?_)) | (apply gCv_; first | refine w_cv (k := ?_) | refine w_cB (kk := ?_) | refine w_cB2 (kk := ?_)) | (apply gAs_; refine w_as (k := ?_)) | (apply gFa_; refine w_fa (k := ?_)) | (apply gBi_; refine w_bi (k := ?_)) | (apply gPi_; refine w_pi (k := ?_)) | (apply gNc_; refine w_nc (k := ?_)) | (apply gXt_; refine w_xt (k := ?_)) | (apply gCB_; first | refine w_cb (k := ?_) | refine w_ap1 (k' := fun _ _ _ => ?_)) | (apply gUn_; refine w_un (k := ?_)) | (apply gFl_; refine w_fl (k := ?_)) | (apply gSl_; first | refine w_sV (k := ?_) | refine w_sl (k := ?_)) | (apply gIx_; refine w_ix (k := ?_)) | (apply gIa_; refine w_iA (k := ?_)) | (apply gMf_; refine w_mf (k := ?_)) | (apply cSkip_; refine skip_ ?_) | (apply cBlock_; refine block_ ?_) | (apply cBlk_; refine blk_ ?_) | (apply cExit_; refine exit_ rfl ?_)))
      exact e_stop _ [3, 4, 5, 6, 7] ⟨k - (i + 1), by omega, i + 1, 16, _, _, _, xs, rfl, by omega, by omega, hw, rfl, rfl⟩
  · obtain rfl : i = k := by omega
    have d1 : decide ((i : Int) < (i : Int)) = false := decide_eq_false (by omega)
    have hPc := fun Z (hZ : Z.size = 901) => pieceZ_c Z 901 hZ (by omega) (by omega) 0
    have hPg := PutGreat_c s (1, G) (by simp only; omega) (by simp only; omega)
    have hPe := PieceE_c (1, G) 0 (by simp only; omega) (.inr (.inr (by simp only; omega)))
    have hP0 := PieceE_c (0, emp) (-1) (by decide) (.inl (by decide))
    by_cases h0 : 0 < i
    · have hT := fun Z (hZ : Z.size = 901) => takeL_other r p c n xs Z 901 hZ (by omega) (by omega) hw (by omega) (by omega) (by omega)
      simp only [rcvL] at hT
      repeat' (first | (apply gCv_; refine w_cvV (k := ?_)) | (refine w_mk byteRow 0 (k' := fun _ => ?_)) | (apply gCv_; refine w_cvn (k := ?_)) | (apply gBi_; first | refine w_bsE (k := ?_) | refine w_cat (k := ?_)) | (apply gCa_; first | refine w_cd (hPg) (k := ?_)) | (first | (apply gMv_; refine w_mv (k := ?_)) | (apply gN_; first | refine nxt_ ?_ | refine rend_ ?_ | refine nxtD_ rfl ?_ | refine rendD_ (by kernel_rfl) ?_ | refine nxtT_ rfl ?_ | refine rendT_ (by kernel_rfl) ?_ | refine fk_ ?_ | refine nxtF_ (by kernel_rfl) rfl rfl ?_ ?_ | refine nxtF3_ (by kernel_rfl) rfl rfl rfl ?_ ?_ ?_) | (apply gLd_; first | refine w_ld (k := ?_) | refine w_lA (k := ?_) | refine w_lr (k := ?_) | refine w_lvc (k := ?_) | refine w_lvA (k := ?_) | refine w_l2 (k := ?_)) | (apply gG_; first | refine w_on (k := ?_) | refine w_of (k := ?_) | refine gcaseD_ rfl rfl rfl (fun h h' => ?_) (fun h h' => ?_) | refine gcaseE_ rfl rfl rfl (fun h h' => ?_) (fun h h' => ?_) | refine gcaseN_ rfl rfl rfl (fun h h' => ?_) (fun h h' => ?_) | refine gcase_ rfl rfl rfl (fun h => ?_) (fun h => ?_)) | (apply gSt_; first | refine w_st (k := ?_) | refine w_sA (k := ?_)) | (apply cSeq_; refine seq_ ?_) | (apply cReg_; refine region_ ?_) | (apply cIf_; first | refine ifT_ rfl ?_ | refine ifF_ rfl ?_ | refine ifB_ rfl (by assumption) ?_ | refine ifC_ rfl (by assumption) ?_ | refine ifD_ rfl (fun h => ?_) (fun h => ?_) | refine ifE_ rfl (fun h => ?_) (fun h => ?_) | refine ifN_ rfl (fun h => ?_) (fun h => ?_) | refine if_ rfl (fun h => ?_) (fun h => ?_)) | (apply gBd_; refine w_bd (k := ?_)) | (apply gBs_; refine w_bs (k := fun _ => ?_)) | (apply gBx_; refine w_bx (k := fun _ => ?_)) | (apply gAl_; refine w_al (k := fun _ => ?_)) | (apply gCv_; first | refine w_cv (k := ?_) | refine w_cB (kk := ?_) | refine w_cB2 (kk := ?_)) | (apply gAs_; refine w_as (k := ?_)) | (apply gFa_; refine w_fa (k := ?_)) | (apply gBi_; refine w_bi (k := ?_)) | (apply gPi_; refine w_pi (k := ?_)) | (apply gNc_; refine w_nc (k := ?_)) | (apply gXt_; refine w_xt (k := ?_)) | (apply gCB_; first | refine w_cb (k := ?_) | refine w_ap1 (k' := fun _ _ _ => ?_)) | (apply gUn_; refine w_un (k := ?_)) | (apply gFl_; refine w_fl (k := ?_)) | (apply gSl_; first | refine w_sV (k := ?_) | refine w_sl (k := ?_)) | (apply gIx_; refine w_ix (k := ?_)) | (apply gIa_; refine w_iA (k := ?_)) | (apply gMf_; refine w_mf (k := ?_)) | (apply cSkip_; refine skip_ ?_) | (apply cBlock_; refine block_ ?_) | (apply cBlk_; refine blk_ ?_) | (apply cExit_; refine exit_ rfl ?_)))
      have hZ : (byt (List.replicate (Int.toNat 901) 0)).size = 901 := by rw [byt_size, List.length_replicate]; rfl
      generalize byt (List.replicate (Int.toNat 901) 0) = Z at *
      have hT := hT Z hZ
      have hPc := hPc Z hZ
      have d3 : decide ((i : Int) > 0) = true := decide_eq_true (by omega)
      have d4 : (((3 : Int) == 3) == decide ((i : Int) > 0)) = true := by rw [d3]; rfl
      have d5 : ((n : Int) == max 1 (min (i : Int) 16)) = true := by rw [beq_iff_eq]; omega
      repeat' (first | (apply gCv_; refine w_cvn (k := ?_)) | (apply gBi_; first | refine w_bsE (k := ?_) | refine w_cat (k := ?_)) | (apply gCa_; first | refine w_cd (hPc) (k := ?_) | refine w_cd (hT) (k := ?_) | refine w_cd (awake40_c) (k := ?_) | refine w_cd (hPg) (k := ?_) | refine w_cd (hPe) (k := ?_) | refine w_cd (hP0) (k := ?_) | refine w_cd (RLen_c _ _ _ _) (k := ?_)) | (first | (apply gMv_; refine w_mv (k := ?_)) | (apply gN_; first | refine nxt_ ?_ | refine rend_ ?_ | refine nxtD_ rfl ?_ | refine rendD_ (by kernel_rfl) ?_ | refine nxtT_ rfl ?_ | refine rendT_ (by kernel_rfl) ?_ | refine fk_ ?_ | refine nxtF_ (by kernel_rfl) rfl rfl ?_ ?_ | refine nxtF3_ (by kernel_rfl) rfl rfl rfl ?_ ?_ ?_) | (apply gLd_; first | refine w_ld (k := ?_) | refine w_lA (k := ?_) | refine w_lr (k := ?_) | refine w_lvc (k := ?_) | refine w_lvA (k := ?_) | refine w_l2 (k := ?_)) | (apply gG_; first | refine w_on (k := ?_) | refine w_of (k := ?_) | refine gcaseD_ rfl rfl rfl (fun h h' => ?_) (fun h h' => ?_) | refine gcaseE_ rfl rfl rfl (fun h h' => ?_) (fun h h' => ?_) | refine gcaseN_ rfl rfl rfl (fun h h' => ?_) (fun h h' => ?_) | refine gcase_ rfl rfl rfl (fun h => ?_) (fun h => ?_)) | (apply gSt_; first | refine w_st (k := ?_) | refine w_sA (k := ?_)) | (apply cSeq_; refine seq_ ?_) | (apply cReg_; refine region_ ?_) | (apply cIf_; first | refine ifT_ rfl ?_ | refine ifF_ rfl ?_ | refine ifB_ rfl (by assumption) ?_ | refine ifC_ rfl (by assumption) ?_ | refine ifD_ rfl (fun h => ?_) (fun h => ?_) | refine ifE_ rfl (fun h => ?_) (fun h => ?_) | refine ifN_ rfl (fun h => ?_) (fun h => ?_) | refine if_ rfl (fun h => ?_) (fun h => ?_)) | (apply gBd_; refine w_bd (k := ?_)) | (apply gBs_; refine w_bs (k := fun _ => ?_)) | (apply gBx_; refine w_bx (k := fun _ => ?_)) | (apply gAl_; refine w_al (k := fun _ => ?_)) | (apply gCv_; first | refine w_cv (k := ?_) | refine w_cB (kk := ?_) | refine w_cB2 (kk := ?_)) | (apply gAs_; refine w_as (k := ?_)) | (apply gFa_; refine w_fa (k := ?_)) | (apply gBi_; refine w_bi (k := ?_)) | (apply gPi_; refine w_pi (k := ?_)) | (apply gNc_; refine w_nc (k := ?_)) | (apply gXt_; refine w_xt (k := ?_)) | (apply gCB_; first | refine w_cb (k := ?_) | refine w_ap1 (k' := fun _ _ _ => ?_)) | (apply gUn_; refine w_un (k := ?_)) | (apply gFl_; refine w_fl (k := ?_)) | (apply gSl_; first | refine w_sV (k := ?_) | refine w_sl (k := ?_)) | (apply gIx_; refine w_ix (k := ?_)) | (apply gIa_; refine w_iA (k := ?_)) | (apply gMf_; refine w_mf (k := ?_)) | (apply cSkip_; refine skip_ ?_) | (apply cBlock_; refine block_ ?_) | (apply cBlk_; refine blk_ ?_) | (apply cExit_; refine exit_ rfl ?_)))
      exact e_rets (he := by exact congrArg Value.bool d5)
    · obtain rfl : i = 0 := by omega
      obtain rfl : n = 0 := by omega
      have hT := fun Z (hZ : Z.size = 901) => takeL_new r p c 0 xs Z 901 hZ (by omega) (by omega) hw (by omega)
      simp only [rcvL] at hT
      repeat' (first | (apply gCv_; refine w_cvV (k := ?_)) | (refine w_mk byteRow 0 (k' := fun _ => ?_)) | (apply gCv_; refine w_cvn (k := ?_)) | (apply gBi_; first | refine w_bsE (k := ?_) | refine w_cat (k := ?_)) | (apply gCa_; first | refine w_cd (hPg) (k := ?_)) | (first | (apply gMv_; refine w_mv (k := ?_)) | (apply gN_; first | refine nxt_ ?_ | refine rend_ ?_ | refine nxtD_ rfl ?_ | refine rendD_ (by kernel_rfl) ?_ | refine nxtT_ rfl ?_ | refine rendT_ (by kernel_rfl) ?_ | refine fk_ ?_ | refine nxtF_ (by kernel_rfl) rfl rfl ?_ ?_ | refine nxtF3_ (by kernel_rfl) rfl rfl rfl ?_ ?_ ?_) | (apply gLd_; first | refine w_ld (k := ?_) | refine w_lA (k := ?_) | refine w_lr (k := ?_) | refine w_lvc (k := ?_) | refine w_lvA (k := ?_) | refine w_l2 (k := ?_)) | (apply gG_; first | refine w_on (k := ?_) | refine w_of (k := ?_) | refine gcaseD_ rfl rfl rfl (fun h h' => ?_) (fun h h' => ?_) | refine gcaseE_ rfl rfl rfl (fun h h' => ?_) (fun h h' => ?_) | refine gcaseN_ rfl rfl rfl (fun h h' => ?_) (fun h h' => ?_) | refine gcase_ rfl rfl rfl (fun h => ?_) (fun h => ?_)) | (apply gSt_; first | refine w_st (k := ?_) | refine w_sA (k := ?_)) | (apply cSeq_; refine seq_ ?_) | (apply cReg_; refine region_ ?_) | (apply cIf_; first | refine ifT_ rfl ?_ | refine ifF_ rfl ?_ | refine ifB_ rfl (by assumption) ?_ | refine ifC_ rfl (by assumption) ?_ | refine ifD_ rfl (fun h => ?_) (fun h => ?_) | refine ifE_ rfl (fun h => ?_) (fun h => ?_) | refine ifN_ rfl (fun h => ?_) (fun h => ?_) | refine if_ rfl (fun h => ?_) (fun h => ?_)) | (apply gBd_; refine w_bd (k := ?_)) | (apply gBs_; refine w_bs (k := fun _ => ?_)) | (apply gBx_; refine w_bx (k := fun _ => ?_)) | (apply gAl_; refine w_al (k := fun _ => ?_)) | (apply gCv_; first | refine w_cv (k := ?_) | refine w_cB (kk := ?_) | refine w_cB2 (kk := ?_)) | (apply gAs_; refine w_as (k := ?_)) | (apply gFa_; refine w_fa (k := ?_)) | (apply gBi_; refine w_bi (k := ?_)) | (apply gPi_; refine w_pi (k := ?_)) | (apply gNc_; refine w_nc (k := ?_)) | (apply gXt_; refine w_xt (k := ?_)) | (apply gCB_; first | refine w_cb (k := ?_) | refine w_ap1 (k' := fun _ _ _ => ?_)) | (apply gUn_; refine w_un (k := ?_)) | (apply gFl_; refine w_fl (k := ?_)) | (apply gSl_; first | refine w_sV (k := ?_) | refine w_sl (k := ?_)) | (apply gIx_; refine w_ix (k := ?_)) | (apply gIa_; refine w_iA (k := ?_)) | (apply gMf_; refine w_mf (k := ?_)) | (apply cSkip_; refine skip_ ?_) | (apply cBlock_; refine block_ ?_) | (apply cBlk_; refine blk_ ?_) | (apply cExit_; refine exit_ rfl ?_)))
      have hZ : (byt (List.replicate (Int.toNat 901) 0)).size = 901 := by rw [byt_size, List.length_replicate]; rfl
      generalize byt (List.replicate (Int.toNat 901) 0) = Z at *
      have hT := hT Z hZ
      have hPc := hPc Z hZ
      repeat' (first | (apply gCv_; refine w_cvn (k := ?_)) | (apply gBi_; first | refine w_bsE (k := ?_) | refine w_cat (k := ?_)) | (apply gCa_; first | refine w_cd (hPc) (k := ?_) | refine w_cg (hT) (k := fun _ => ?_) | refine w_cd (awake40_c) (k := ?_) | refine w_cd (hPg) (k := ?_) | refine w_cd (hPe) (k := ?_) | refine w_cd (hP0) (k := ?_) | refine w_cd (RLen_c _ _ _ _) (k := ?_)) | (first | (apply gMv_; refine w_mv (k := ?_)) | (apply gN_; first | refine nxt_ ?_ | refine rend_ ?_ | refine nxtD_ rfl ?_ | refine rendD_ (by kernel_rfl) ?_ | refine nxtT_ rfl ?_ | refine rendT_ (by kernel_rfl) ?_ | refine fk_ ?_ | refine nxtF_ (by kernel_rfl) rfl rfl ?_ ?_ | refine nxtF3_ (by kernel_rfl) rfl rfl rfl ?_ ?_ ?_) | (apply gLd_; first | refine w_ld (k := ?_) | refine w_lA (k := ?_) | refine w_lr (k := ?_) | refine w_lvc (k := ?_) | refine w_lvA (k := ?_) | refine w_l2 (k := ?_)) | (apply gG_; first | refine w_on (k := ?_) | refine w_of (k := ?_) | refine gcaseD_ rfl rfl rfl (fun h h' => ?_) (fun h h' => ?_) | refine gcaseE_ rfl rfl rfl (fun h h' => ?_) (fun h h' => ?_) | refine gcaseN_ rfl rfl rfl (fun h h' => ?_) (fun h h' => ?_) | refine gcase_ rfl rfl rfl (fun h => ?_) (fun h => ?_)) | (apply gSt_; first | refine w_st (k := ?_) | refine w_sA (k := ?_)) | (apply cSeq_; refine seq_ ?_) | (apply cReg_; refine region_ ?_) | (apply cIf_; first | refine ifT_ rfl ?_ | refine ifF_ rfl ?_ | refine ifB_ rfl (by assumption) ?_ | refine ifC_ rfl (by assumption) ?_ | refine ifD_ rfl (fun h => ?_) (fun h => ?_) | refine ifE_ rfl (fun h => ?_) (fun h => ?_) | refine ifN_ rfl (fun h => ?_) (fun h => ?_) | refine if_ rfl (fun h => ?_) (fun h => ?_)) | (apply gBd_; refine w_bd (k := ?_)) | (apply gBs_; refine w_bs (k := fun _ => ?_)) | (apply gBx_; refine w_bx (k := fun _ => ?_)) | (apply gAl_; refine w_al (k := fun _ => ?_)) | (apply gCv_; first | refine w_cv (k := ?_) | refine w_cB (kk := ?_) | refine w_cB2 (kk := ?_)) | (apply gAs_; refine w_as (k := ?_)) | (apply gFa_; refine w_fa (k := ?_)) | (apply gBi_; refine w_bi (k := ?_)) | (apply gPi_; refine w_pi (k := ?_)) | (apply gNc_; refine w_nc (k := ?_)) | (apply gXt_; refine w_xt (k := ?_)) | (apply gCB_; first | refine w_cb (k := ?_) | refine w_ap1 (k' := fun _ _ _ => ?_)) | (apply gUn_; refine w_un (k := ?_)) | (apply gFl_; refine w_fl (k := ?_)) | (apply gSl_; first | refine w_sV (k := ?_) | refine w_sl (k := ?_)) | (apply gIx_; refine w_ix (k := ?_)) | (apply gIa_; refine w_iA (k := ?_)) | (apply gMf_; refine w_mf (k := ?_)) | (apply cSkip_; refine skip_ ?_) | (apply cBlock_; refine block_ ?_) | (apply cBlk_; refine blk_ ?_) | (apply cExit_; refine exit_ rfl ?_)))
      exact e_rets
end Go.Proofs.Ytpghbkkjdfaflaa
