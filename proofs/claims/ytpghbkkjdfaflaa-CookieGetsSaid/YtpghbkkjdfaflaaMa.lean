/- mac.pad, mac.Of, mac.Is; crosswayref08.pad, Mac. -/
import Derived.Test.YtpghbkkjdfaflaaOf
import Derived.Test.YtpghbkkjdfaflaaOg
set_option linter.unusedVariables false
set_option linter.unusedSimpArgs false
namespace Go.SL
open Go.RowKit
def xr (b x : Int) : Int := bits .xor .u8 x b
theorem b8Xor (x y : Int) : bits .xor .u8 x y = IntKind.u8.wrap (((BitVec.ofInt 8 x) ^^^ BitVec.ofInt 8 y).toNat : Int) := rfl
theorem xr_comm (x y : Int) : bits .xor .u8 x y = bits .xor .u8 y x := by rw [b8Xor, b8Xor, BitVec.xor_comm]
def padL (k : ByteArray) : List Int := bytesOf k ++ List.replicate (64 - k.size) 0
theorem padL_length (k : ByteArray) (h : k.size ≤ 64) : (padL k).length = 64 := by
  unfold padL
  rw [List.length_append, bytesOf_length, List.length_replicate]
  omega
theorem padL_get (k : ByteArray) (h : k.size ≤ 64) (i : Nat) (hi : i < 64) : (padL k)[i]? = some (if i < k.size then byteAt k (i : Int) else 0) := by
  unfold padL
  by_cases hk : i < k.size
  · rw [if_pos hk, List.getElem?_append_left (by rw [bytesOf_length]; exact hk), byteAt_eq k i hk]
    unfold bytesOf
    rw [List.getElem?_map, List.getElem?_eq_getElem (by simpa using hk)]
    rfl
  · rw [if_neg hk, List.getElem?_append_right (by rw [bytesOf_length]; omega), bytesOf_length, List.getElem?_replicate, if_pos (by omega)]
def padX (k : ByteArray) (b : Int) : ByteArray := byt ((padL k).map (xr b))
def macKey (k : ByteArray) : ByteArray := if k.size > 64 then digest k else k
theorem macKey_size (k : ByteArray) : (macKey k).size ≤ 64 := by
  unfold macKey
  split
  · rw [digest_size]; omega
  · omega
def padB (k : ByteArray) (b : Int) : ByteArray := padX (macKey k) b
theorem padB_size (k : ByteArray) (b : Int) : (padB k b).size = 64 := by
  unfold padB padX
  rw [byt_size, List.length_map, padL_length _ (macKey_size k)]
def macB (k s : ByteArray) : ByteArray := digest (padB k 92 ++ digest (padB k 54 ++ s))
theorem macB_size (k s : ByteArray) : (macB k s).size = 20 := digest_size _
def mapAt (f : Int → Int) (l : List Int) : Nat → List Int
  | 0 => l
  | i + 1 => (mapAt f l i).set i (f (l.getD i 0))
theorem mapAt_length (f : Int → Int) (l : List Int) : ∀ i, (mapAt f l i).length = l.length
  | 0 => rfl
  | i + 1 => by rw [mapAt, List.length_set, mapAt_length f l i]
theorem mapAt_get (f : Int → Int) (l : List Int) : ∀ (i j : Nat), i ≤ l.length → (mapAt f l i)[j]? = if j < i then (l[j]?).map f else l[j]?
  | 0, j, _ => by rw [mapAt, if_neg (by omega)]
  | i + 1, j, h => by
    rw [mapAt, List.getElem?_set, mapAt_length, mapAt_get f l i j (by omega)]
    by_cases e : i = j
    · subst e
      rw [if_pos rfl, if_pos (by omega), if_pos (by omega), List.getD_eq_getElem?_getD, List.getElem?_eq_getElem (by omega)]
      rfl
    · rw [if_neg e]
      by_cases hj : j < i
      · rw [if_pos hj, if_pos (by omega)]
      · rw [if_neg hj, if_neg (by omega)]
theorem mapAt_all (f : Int → Int) (l : List Int) : mapAt f l l.length = l.map f := by
  apply List.ext_getElem?
  intro j
  rw [mapAt_get f l _ j (Nat.le_refl _), List.getElem?_map]
  by_cases h : j < l.length
  · rw [if_pos h]
  · rw [if_neg h, List.getElem?_eq_none (by omega)]
    rfl
theorem take_map_byt (f : Int → Int) (l : List Int) (i : Nat) (x : Int) (h : l[i]? = some x) : byt ((l.take i).map f) ++ byt [f x] = byt ((l.take (i + 1)).map f) := by
  obtain ⟨hl, hx⟩ := List.getElem?_eq_some_iff.1 h
  rw [byt_append, List.take_succ_eq_append_getElem hl, List.map_append, hx]
  rfl
section
attribute [local irreducible] WN WB WK Ctr Wn Tfin
variable {P : Program} {E : World} {n : Nat} {env : En} {d : Nat} {ty : TypeId} {ps : String} {af : Array Edge} {gd : Option (Nat × Bool)} {ops : Array Oper} {Q : Exit → Act → World → Prop} {r : Rs} {L M : List SA}
/-- A key copied to the start of a block of zeros. -/
theorem w_cpK {t t2 e : TypeId} [ht : TSlc P t e] [hz : TSize P e 1] {x y : Operand} {g : Nat} {key : ByteArray} (hk : key.size ≤ 64)
    (hx : ev env x = some (.slice (some ⟨g, 0, none⟩) 64 64) := by exact rfl) (hy : ev env y = some (.string key) := by exact rfl) (hp : Pl (vec (some ⟨g, 0, none⟩) 64 64 e 1 (rowsL byteRow (List.replicate 64 0))) L M := by ((repeat (first | exact .head | apply Pl.tail)); first | done | fail))
    (hd : Nat.blt d n = true := by exact rfl) (hok : okB ops 2 r = true := by kernel_rfl) (hkp : kept r (vec (some ⟨g, 0, none⟩) 64 64 e 1 (rowsL byteRow (padL key)) :: M) := by (first | exact trivial | exact .inl rfl | exact rfl | (refine .inr ?_; (repeat (first | exact .nil | ((first | apply Sel.cons | apply Cut.cons); repeat (first | exact .head | apply Pl.tail)))); first | done | fail)))
    (k : ∀ u, WN P E n ops Q (adv r) ((d, u) :: env) (vec (some ⟨g, 0, none⟩) 64 64 e 1 (rowsL byteRow (padL key)) :: M)) : WB P E n ops Q ⟨some d, .call { callee := .builtin .copy, args := #[x, y], argTypes := #[t, t2] }, ty, ps, af, gd⟩ true r env L := by
  have hmin : min key.size 64 = key.size := by omega
  have e1 : (key.data.toList.map fun b => Value.int .u8 b.toNat) = rowsL byteRow (bytesOf key) := by
    rw [rowsL_bytes, bytesOf, List.map_map]
    rfl
  have e2 : (rowsL byteRow (bytesOf key)).length = key.size := by rw [rows_length (sz := 1) (fun _ => rfl), bytesOf_length]; omega
  have hb1 : ∀ (l : List Int), ∀ v ∈ rowsL byteRow l, v.oneCell' = true := fun l v hv => by
    rw [rowsL_bytes, List.mem_map] at hv
    obtain ⟨a, _, rfl⟩ := hv
    rfl
  refine do_ (cp_ (i := 0) (m' := 64) (kk := key.size) (l' := rowsL byteRow (padL key)) (news := rowsL byteRow (bytesOf key)) hx hy hp (by simp) (by rw [hmin, ← e1]; exact srcS) (by rw [e2, hmin]; omega) (hb1 _) (by rw [e2]; omega) (Nat.le_refl _) (by rw [rows_length (sz := 1) (fun _ => rfl), padL_length key hk]) ?_ (hb1 _)) hd hok fun v L' ⟨_, e⟩ => by subst e; exact ⟨hkp, k v⟩
  intro rest _
  refine ⟨rest, ?_⟩
  rw [e2]
  simp only [Nat.zero_mul, List.take_zero, List.nil_append, Nat.zero_add]
  unfold padL
  rw [rowsL_app, List.append_assoc]
  congr 1
  rw [rowsL_bytes, rowsL_bytes, List.drop_append, List.map_replicate, List.map_replicate, List.drop_replicate, List.length_replicate]
  rw [show key.size - 64 = 0 by omega, List.drop_zero]
end
end Go.SL
namespace Go.Proofs.Ytpghbkkjdfaflaa
open Go.SL
attribute [local irreducible] Val ValS Does WN WB WK Sat Ctr Wn Tfin
set_option linter.unusedVariables false
set_option linter.unusedSimpArgs false
open Go.RowKit
attribute [local irreducible] digest padL
set_option maxRecDepth 20000 in
theorem pad_c (key : ByteArray) (b : Int) (hs : key.size ≤ 1000000) : Ctr Try.prog 124 [.string key, .int .u8 b] [] (fun v L => v = .string (padB key b) ∧ L = []) := by
  have hD := digOf_c key hs
  refine ctr_ Try.func124 rfl Try.ntmps124 rfl fun E R => ?_
  have hko : macKey key = if key.size > 64 then digest key else key := rfl
  have hks := macKey_size key
  unfold padB padX
  obtain ⟨q, hq⟩ : ∃ q, q = macKey key := ⟨_, rfl⟩
  rw [← hq] at hks hko ⊢
  clear hq
  refine' fork_to (X := Nat) (fun g => [(1, .int .u8 b), (5, .slice (some ⟨g, 0, none⟩) 64 64), (17, .int .i64 64), (18, .int .i64 0)]) (fun g => [vec (some ⟨g, 0, none⟩) 64 64 5 1 (rowsL byteRow (padL q)), R]) (fun rest => ?body) ?rest
  case body =>
    by_cases h : key.size > 64
    · have c1 : decide ((key.size : Int) > 64) = true := decide_eq_true (by omega)
      rw [if_pos h] at hko
      rw [← hko] at hD
      repeat' (first | (refine w_mk byteRow 0 (k' := fun _ => ?_)) | (refine w_cpK hks (k := fun _ => ?_)) | (apply gCa_; first | refine w_cd (hD) (k := ?_)) | (first | (apply gMv_; refine w_mv (k := ?_)) | (apply gN_; first | refine nxt_ ?_ | refine rend_ ?_ | refine nxtD_ rfl ?_ | refine rendD_ (by kernel_rfl) ?_ | refine nxtT_ rfl ?_ | refine rendT_ (by kernel_rfl) ?_ | refine fk_ ?_ | refine nxtF_ (by kernel_rfl) rfl rfl ?_ ?_ | refine nxtF3_ (by kernel_rfl) rfl rfl rfl ?_ ?_ ?_) | (apply gLd_; first | refine w_ld (k := ?_) | refine w_lA (k := ?_) | refine w_lr (k := ?_) | refine w_lvc (k := ?_) | refine w_lvA (k := ?_) | refine w_l2 (k := ?_)) | (apply gG_; first | refine w_on (k := ?_) | refine w_of (k := ?_) | refine gcaseD_ rfl rfl rfl (fun h h' => ?_) (fun h h' => ?_) | refine gcaseE_ rfl rfl rfl (fun h h' => ?_) (fun h h' => ?_) | refine gcaseN_ rfl rfl rfl (fun h h' => ?_) (fun h h' => ?_) | refine gcase_ rfl rfl rfl (fun h => ?_) (fun h => ?_)) | (apply gSt_; first | refine w_st (k := ?_) | refine w_sA (k := ?_)) | (apply cSeq_; refine seq_ ?_) | (apply cReg_; refine region_ ?_) | (apply cIf_; first | refine ifT_ rfl ?_ | refine ifF_ rfl ?_ | refine ifB_ rfl (by assumption) ?_ | refine ifC_ rfl (by assumption) ?_ | refine ifD_ rfl (fun h => ?_) (fun h => ?_) | refine ifE_ rfl (fun h => ?_) (fun h => ?_) | refine ifN_ rfl (fun h => ?_) (fun h => ?_) | refine if_ rfl (fun h => ?_) (fun h => ?_)) | (apply gBd_; refine w_bd (k := ?_)) | (apply gBs_; refine w_bs (k := fun _ => ?_)) | (apply gBx_; refine w_bx (k := fun _ => ?_)) | (apply gAl_; refine w_al (k := fun _ => ?_)) | (apply gCv_; first | refine w_cv (k := ?_) | refine w_cB (kk := ?_) | refine w_cB2 (kk := ?_)) | (apply gAs_; refine w_as (k := ?_)) | (apply gFa_; refine w_fa (k := ?_)) | (apply gBi_; refine w_bi (k := ?_)) | (apply gPi_; refine w_pi (k := ?_)) | (apply gNc_; refine w_nc (k := ?_)) | (apply gXt_; refine w_xt (k := ?_)) | (apply gCB_; first | refine w_cb (k := ?_) | refine w_ap1 (k' := fun _ _ _ => ?_)) | (apply gUn_; refine w_un (k := ?_)) | (apply gFl_; refine w_fl (k := ?_)) | (apply gSl_; first | refine w_sV (k := ?_) | refine w_sl (k := ?_)) | (apply gIx_; refine w_ix (k := ?_)) | (apply gIa_; refine w_iA (k := ?_)) | (apply gMf_; refine w_mf (k := ?_)) | (apply cSkip_; refine skip_ ?_) | (apply cBlock_; refine block_ ?_) | (apply cBlk_; refine blk_ ?_) | (apply cExit_; refine exit_ rfl ?_)))
      exact wk_to [1, 5, 17, 18] (rest _)
    · have c1 : decide ((key.size : Int) > 64) = false := decide_eq_false (by omega)
      rw [if_neg h] at hko
      rw [← hko] at c1 ⊢
      repeat' (first | (refine w_mk byteRow 0 (k' := fun _ => ?_)) | (refine w_cpK hks (k := fun _ => ?_)) | (apply gCa_; first | refine w_cd (hD) (k := ?_)) | (first | (apply gMv_; refine w_mv (k := ?_)) | (apply gN_; first | refine nxt_ ?_ | refine rend_ ?_ | refine nxtD_ rfl ?_ | refine rendD_ (by kernel_rfl) ?_ | refine nxtT_ rfl ?_ | refine rendT_ (by kernel_rfl) ?_ | refine fk_ ?_ | refine nxtF_ (by kernel_rfl) rfl rfl ?_ ?_ | refine nxtF3_ (by kernel_rfl) rfl rfl rfl ?_ ?_ ?_) | (apply gLd_; first | refine w_ld (k := ?_) | refine w_lA (k := ?_) | refine w_lr (k := ?_) | refine w_lvc (k := ?_) | refine w_lvA (k := ?_) | refine w_l2 (k := ?_)) | (apply gG_; first | refine w_on (k := ?_) | refine w_of (k := ?_) | refine gcaseD_ rfl rfl rfl (fun h h' => ?_) (fun h h' => ?_) | refine gcaseE_ rfl rfl rfl (fun h h' => ?_) (fun h h' => ?_) | refine gcaseN_ rfl rfl rfl (fun h h' => ?_) (fun h h' => ?_) | refine gcase_ rfl rfl rfl (fun h => ?_) (fun h => ?_)) | (apply gSt_; first | refine w_st (k := ?_) | refine w_sA (k := ?_)) | (apply cSeq_; refine seq_ ?_) | (apply cReg_; refine region_ ?_) | (apply cIf_; first | refine ifT_ rfl ?_ | refine ifF_ rfl ?_ | refine ifB_ rfl (by assumption) ?_ | refine ifC_ rfl (by assumption) ?_ | refine ifD_ rfl (fun h => ?_) (fun h => ?_) | refine ifE_ rfl (fun h => ?_) (fun h => ?_) | refine ifN_ rfl (fun h => ?_) (fun h => ?_) | refine if_ rfl (fun h => ?_) (fun h => ?_)) | (apply gBd_; refine w_bd (k := ?_)) | (apply gBs_; refine w_bs (k := fun _ => ?_)) | (apply gBx_; refine w_bx (k := fun _ => ?_)) | (apply gAl_; refine w_al (k := fun _ => ?_)) | (apply gCv_; first | refine w_cv (k := ?_) | refine w_cB (kk := ?_) | refine w_cB2 (kk := ?_)) | (apply gAs_; refine w_as (k := ?_)) | (apply gFa_; refine w_fa (k := ?_)) | (apply gBi_; refine w_bi (k := ?_)) | (apply gPi_; refine w_pi (k := ?_)) | (apply gNc_; refine w_nc (k := ?_)) | (apply gXt_; refine w_xt (k := ?_)) | (apply gCB_; first | refine w_cb (k := ?_) | refine w_ap1 (k' := fun _ _ _ => ?_)) | (apply gUn_; refine w_un (k := ?_)) | (apply gFl_; refine w_fl (k := ?_)) | (apply gSl_; first | refine w_sV (k := ?_) | refine w_sl (k := ?_)) | (apply gIx_; refine w_ix (k := ?_)) | (apply gIa_; refine w_iA (k := ?_)) | (apply gMf_; refine w_mf (k := ?_)) | (apply cSkip_; refine skip_ ?_) | (apply cBlock_; refine block_ ?_) | (apply cBlk_; refine blk_ ?_) | (apply cExit_; refine exit_ rfl ?_)))
      exact wk_to [1, 5, 17, 18] (rest _)
  case rest =>
    intro g
    have hql := padL_length q hks
    clear hD hko
    refine loop_ (M := [vec (some ⟨g, 0, none⟩) 64 64 5 1 (rowsL byteRow (mapAt (xr b) (padL q) 0)), R])
      (fun m env L => ∃ i : Nat, m = 64 - i ∧ i ≤ 64 ∧ env = [(1, .int .u8 b), (5, .slice (some ⟨g, 0, none⟩) 64 64), (17, .int .i64 64), (18, .int .i64 i)] ∧
        L = [vec (some ⟨g, 0, none⟩) 64 64 5 1 (rowsL byteRow (mapAt (xr b) (padL q) i)), R])
      64 [1, 5, 17, 18] rfl (by rw [mapAt]; ((repeat (first | exact .nil | ((first | apply Sel.cons | apply Cut.cons); repeat (first | exact .head | apply Pl.tail)))); first | done | fail)) ⟨0, rfl, by omega, rfl, rfl⟩ ?_
    rintro m env L ⟨i, hm, hi, rfl, rfl⟩
    have hml := mapAt_length (xr b) (padL q) i
    by_cases hin : i < 64
    · have c1 : decide ((i : Int) < 64) = true := decide_eq_true (by omega)
      have hv : (mapAt (xr b) (padL q) i)[(i : Int).toNat]? = some ((padL q).getD i 0) := by
        rw [Int.toNat_natCast, mapAt_get _ _ _ _ (by omega), if_neg (by omega), List.getD_eq_getElem?_getD, List.getElem?_eq_getElem (by omega)]
        rfl
      have e : (mapAt (xr b) (padL q) i).set (i : Int).toNat (xr b ((padL q).getD i 0)) = mapAt (xr b) (padL q) (i + 1) := by
        rw [mapAt, Int.toNat_natCast]
      generalize hA : mapAt (xr b) (padL q) i = A at *
      repeat' (first | (apply gSt_; refine w_svc (row := byteRow) (xr b ((padL q).getD i 0)) (fun _ => rfl) hv (k := ?_)) | (first | (apply gMv_; refine w_mv (k := ?_)) | (apply gN_; first | refine nxt_ ?_ | refine rend_ ?_ | refine nxtD_ rfl ?_ | refine rendD_ (by kernel_rfl) ?_ | refine nxtT_ rfl ?_ | refine rendT_ (by kernel_rfl) ?_ | refine fk_ ?_ | refine nxtF_ (by kernel_rfl) rfl rfl ?_ ?_ | refine nxtF3_ (by kernel_rfl) rfl rfl rfl ?_ ?_ ?_) | (apply gLd_; first | refine w_ld (k := ?_) | refine w_lA (k := ?_) | refine w_lr (k := ?_) | refine w_lvc (k := ?_) | refine w_lvA (k := ?_) | refine w_l2 (k := ?_)) | (apply gG_; first | refine w_on (k := ?_) | refine w_of (k := ?_) | refine gcaseD_ rfl rfl rfl (fun h h' => ?_) (fun h h' => ?_) | refine gcaseE_ rfl rfl rfl (fun h h' => ?_) (fun h h' => ?_) | refine gcaseN_ rfl rfl rfl (fun h h' => ?_) (fun h h' => ?_) | refine gcase_ rfl rfl rfl (fun h => ?_) (fun h => ?_)) | (apply gSt_; first | refine w_st (k := ?_) | refine w_sA (k := ?_)) | (apply cSeq_; refine seq_ ?_) | (apply cReg_; refine region_ ?_) | (apply cIf_; first | refine ifT_ rfl ?_ | refine ifF_ rfl ?_ | refine ifB_ rfl (by assumption) ?_ | refine ifC_ rfl (by assumption) ?_ | refine ifD_ rfl (fun h => ?_) (fun h => ?_) | refine ifE_ rfl (fun h => ?_) (fun h => ?_) | refine ifN_ rfl (fun h => ?_) (fun h => ?_) | refine if_ rfl (fun h => ?_) (fun h => ?_)) | (apply gBd_; refine w_bd (k := ?_)) | (apply gBs_; refine w_bs (k := fun _ => ?_)) | (apply gBx_; refine w_bx (k := fun _ => ?_)) | (apply gAl_; refine w_al (k := fun _ => ?_)) | (apply gCv_; first | refine w_cv (k := ?_) | refine w_cB (kk := ?_) | refine w_cB2 (kk := ?_)) | (apply gAs_; refine w_as (k := ?_)) | (apply gFa_; refine w_fa (k := ?_)) | (apply gBi_; refine w_bi (k := ?_)) | (apply gPi_; refine w_pi (k := ?_)) | (apply gNc_; refine w_nc (k := ?_)) | (apply gXt_; refine w_xt (k := ?_)) | (apply gCB_; first | refine w_cb (k := ?_) | refine w_ap1 (k' := fun _ _ _ => ?_)) | (apply gUn_; refine w_un (k := ?_)) | (apply gFl_; refine w_fl (k := ?_)) | (apply gSl_; first | refine w_sV (k := ?_) | refine w_sl (k := ?_)) | (apply gIx_; refine w_ix (k := ?_)) | (apply gIa_; refine w_iA (k := ?_)) | (apply gMf_; refine w_mf (k := ?_)) | (apply cSkip_; refine skip_ ?_) | (apply cBlock_; refine block_ ?_) | (apply cBlk_; refine blk_ ?_) | (apply cExit_; refine exit_ rfl ?_)))
      rw [e]
      exact e_stop _ [1, 5, 17, 18] ⟨64 - (i + 1), by omega, i + 1, rfl, by omega, rfl, rfl⟩
    · obtain rfl : i = 64 := by omega
      have c1 : decide (((64 : Nat) : Int) < 64) = false := by decide
      have e : mapAt (xr b) (padL q) 64 = (padL q).map (xr b) := by rw [← mapAt_all, hql]
      rw [e]
      repeat' (first | (apply gCv_; refine w_cvV (k := ?_)) | (first | (apply gMv_; refine w_mv (k := ?_)) | (apply gN_; first | refine nxt_ ?_ | refine rend_ ?_ | refine nxtD_ rfl ?_ | refine rendD_ (by kernel_rfl) ?_ | refine nxtT_ rfl ?_ | refine rendT_ (by kernel_rfl) ?_ | refine fk_ ?_ | refine nxtF_ (by kernel_rfl) rfl rfl ?_ ?_ | refine nxtF3_ (by kernel_rfl) rfl rfl rfl ?_ ?_ ?_) | (apply gLd_; first | refine w_ld (k := ?_) | refine w_lA (k := ?_) | refine w_lr (k := ?_) | refine w_lvc (k := ?_) | refine w_lvA (k := ?_) | refine w_l2 (k := ?_)) | (apply gG_; first | refine w_on (k := ?_) | refine w_of (k := ?_) | refine gcaseD_ rfl rfl rfl (fun h h' => ?_) (fun h h' => ?_) | refine gcaseE_ rfl rfl rfl (fun h h' => ?_) (fun h h' => ?_) | refine gcaseN_ rfl rfl rfl (fun h h' => ?_) (fun h h' => ?_) | refine gcase_ rfl rfl rfl (fun h => ?_) (fun h => ?_)) | (apply gSt_; first | refine w_st (k := ?_) | refine w_sA (k := ?_)) | (apply cSeq_; refine seq_ ?_) | (apply cReg_; refine region_ ?_) | (apply cIf_; first | refine ifT_ rfl ?_ | refine ifF_ rfl ?_ | refine ifB_ rfl (by assumption) ?_ | refine ifC_ rfl (by assumption) ?_ | refine ifD_ rfl (fun h => ?_) (fun h => ?_) | refine ifE_ rfl (fun h => ?_) (fun h => ?_) | refine ifN_ rfl (fun h => ?_) (fun h => ?_) | refine if_ rfl (fun h => ?_) (fun h => ?_)) | (apply gBd_; refine w_bd (k := ?_)) | (apply gBs_; refine w_bs (k := fun _ => ?_)) | (apply gBx_; refine w_bx (k := fun _ => ?_)) | (apply gAl_; refine w_al (k := fun _ => ?_)) | (apply gCv_; first | refine w_cv (k := ?_) | refine w_cB (kk := ?_) | refine w_cB2 (kk := ?_)) | (apply gAs_; refine w_as (k := ?_)) | (apply gFa_; refine w_fa (k := ?_)) | (apply gBi_; refine w_bi (k := ?_)) | (apply gPi_; refine w_pi (k := ?_)) | (apply gNc_; refine w_nc (k := ?_)) | (apply gXt_; refine w_xt (k := ?_)) | (apply gCB_; first | refine w_cb (k := ?_) | refine w_ap1 (k' := fun _ _ _ => ?_)) | (apply gUn_; refine w_un (k := ?_)) | (apply gFl_; refine w_fl (k := ?_)) | (apply gSl_; first | refine w_sV (k := ?_) | refine w_sl (k := ?_)) | (apply gIx_; refine w_ix (k := ?_)) | (apply gIa_; refine w_iA (k := ?_)) | (apply gMf_; refine w_mf (k := ?_)) | (apply cSkip_; refine skip_ ?_) | (apply cBlock_; refine block_ ?_) | (apply cBlk_; refine blk_ ?_) | (apply cExit_; refine exit_ rfl ?_)))
      exact e_rets
end Go.Proofs.Ytpghbkkjdfaflaa
