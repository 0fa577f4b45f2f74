/- Cookies: what was put is got; nothing of the program. -/
import Derived.Test.YtpghbkkjdfaflaaCg
set_option linter.unusedVariables false
set_option linter.unusedSimpArgs false
namespace Go.SL
open Go.RowKit
theorem ext_l (p q : ByteArray) (a : Nat) (h : p.size = a) : (p ++ q).extract 0 a = p := by
  apply ByteArray.ext
  have : p.data.size = a := h
  simp [← this]
theorem ext_r (p q : ByteArray) (a b : Nat) (h : p.size = a) (h2 : a + q.size = b) : (p ++ q).extract a b = q := by
  apply ByteArray.ext
  have e1 : p.data.size = a := h
  have e2 : q.data.size = b - a := by have : q.size = b - a := by omega
                                      exact this
  simp only [ByteArray.data_extract, ByteArray.data_append]
  subst e1
  rw [Array.extract_append, Array.extract_eq_empty_of_le (by omega), Nat.sub_self, ← e2]
  simp
theorem ext_m (p q r : ByteArray) (a b : Nat) (h : p.size = a) (h2 : a + q.size = b) : (p ++ (q ++ r)).extract a b = q := by
  apply ByteArray.ext
  have e1 : p.data.size = a := h
  have e2 : q.data.size = b - a := by have : q.size = b - a := by omega
                                      exact this
  simp only [ByteArray.data_extract, ByteArray.data_append]
  subst e1
  rw [Array.extract_append, Array.extract_eq_empty_of_le (by omega), Nat.sub_self, ← e2]
  simp
attribute [local irreducible] be
theorem raw_0 (c : Ck) (h : c.may = true) : c.raw.extract 0 8 = be 8 c.made := by
  obtain ⟨_, _, _, _, _, _, _, h8, h9⟩ := c.may_all h
  have e : c.raw = (be 8 c.made) ++ (be 4 c.mine ++ be 4 c.yours ++ be 4 c.myTsn ++ be 4 c.yourTsn ++ be 4 c.peer ++ be 4 c.loc ++ be 2 c.pp ++ be 2 c.mp ++ be 4 c.rwnd ++ be 2 c.out ++ be 2 c.inn ++ be 4 c.t1 ++ be 4 c.t2 ++ c.r1 ++ c.r2) := by unfold Ck.raw; simp only [ByteArray.append_assoc]
  rw [e]
  exact ext_l _ _ _ (by simp only [ByteArray.size_append, be_size, h8, h9])
theorem raw_1 (c : Ck) (h : c.may = true) : c.raw.extract 8 12 = be 4 c.mine := by
  obtain ⟨_, _, _, _, _, _, _, h8, h9⟩ := c.may_all h
  have e : c.raw = (be 8 c.made) ++ ((be 4 c.mine) ++ (be 4 c.yours ++ be 4 c.myTsn ++ be 4 c.yourTsn ++ be 4 c.peer ++ be 4 c.loc ++ be 2 c.pp ++ be 2 c.mp ++ be 4 c.rwnd ++ be 2 c.out ++ be 2 c.inn ++ be 4 c.t1 ++ be 4 c.t2 ++ c.r1 ++ c.r2)) := by unfold Ck.raw; simp only [ByteArray.append_assoc]
  rw [e]
  exact ext_m _ _ _ _ _ (by simp only [ByteArray.size_append, be_size, h8, h9]) (by simp only [ByteArray.size_append, be_size, h8, h9])
theorem raw_2 (c : Ck) (h : c.may = true) : c.raw.extract 12 16 = be 4 c.yours := by
  obtain ⟨_, _, _, _, _, _, _, h8, h9⟩ := c.may_all h
  have e : c.raw = (be 8 c.made ++ be 4 c.mine) ++ ((be 4 c.yours) ++ (be 4 c.myTsn ++ be 4 c.yourTsn ++ be 4 c.peer ++ be 4 c.loc ++ be 2 c.pp ++ be 2 c.mp ++ be 4 c.rwnd ++ be 2 c.out ++ be 2 c.inn ++ be 4 c.t1 ++ be 4 c.t2 ++ c.r1 ++ c.r2)) := by unfold Ck.raw; simp only [ByteArray.append_assoc]
  rw [e]
  exact ext_m _ _ _ _ _ (by simp only [ByteArray.size_append, be_size, h8, h9]) (by simp only [ByteArray.size_append, be_size, h8, h9])
theorem raw_3 (c : Ck) (h : c.may = true) : c.raw.extract 16 20 = be 4 c.myTsn := by
  obtain ⟨_, _, _, _, _, _, _, h8, h9⟩ := c.may_all h
  have e : c.raw = (be 8 c.made ++ be 4 c.mine ++ be 4 c.yours) ++ ((be 4 c.myTsn) ++ (be 4 c.yourTsn ++ be 4 c.peer ++ be 4 c.loc ++ be 2 c.pp ++ be 2 c.mp ++ be 4 c.rwnd ++ be 2 c.out ++ be 2 c.inn ++ be 4 c.t1 ++ be 4 c.t2 ++ c.r1 ++ c.r2)) := by unfold Ck.raw; simp only [ByteArray.append_assoc]
  rw [e]
  exact ext_m _ _ _ _ _ (by simp only [ByteArray.size_append, be_size, h8, h9]) (by simp only [ByteArray.size_append, be_size, h8, h9])
theorem raw_4 (c : Ck) (h : c.may = true) : c.raw.extract 20 24 = be 4 c.yourTsn := by
  obtain ⟨_, _, _, _, _, _, _, h8, h9⟩ := c.may_all h
  have e : c.raw = (be 8 c.made ++ be 4 c.mine ++ be 4 c.yours ++ be 4 c.myTsn) ++ ((be 4 c.yourTsn) ++ (be 4 c.peer ++ be 4 c.loc ++ be 2 c.pp ++ be 2 c.mp ++ be 4 c.rwnd ++ be 2 c.out ++ be 2 c.inn ++ be 4 c.t1 ++ be 4 c.t2 ++ c.r1 ++ c.r2)) := by unfold Ck.raw; simp only [ByteArray.append_assoc]
  rw [e]
  exact ext_m _ _ _ _ _ (by simp only [ByteArray.size_append, be_size, h8, h9]) (by simp only [ByteArray.size_append, be_size, h8, h9])
theorem raw_5 (c : Ck) (h : c.may = true) : c.raw.extract 24 28 = be 4 c.peer := by
  obtain ⟨_, _, _, _, _, _, _, h8, h9⟩ := c.may_all h
  have e : c.raw = (be 8 c.made ++ be 4 c.mine ++ be 4 c.yours ++ be 4 c.myTsn ++ be 4 c.yourTsn) ++ ((be 4 c.peer) ++ (be 4 c.loc ++ be 2 c.pp ++ be 2 c.mp ++ be 4 c.rwnd ++ be 2 c.out ++ be 2 c.inn ++ be 4 c.t1 ++ be 4 c.t2 ++ c.r1 ++ c.r2)) := by unfold Ck.raw; simp only [ByteArray.append_assoc]
  rw [e]
  exact ext_m _ _ _ _ _ (by simp only [ByteArray.size_append, be_size, h8, h9]) (by simp only [ByteArray.size_append, be_size, h8, h9])
theorem raw_6 (c : Ck) (h : c.may = true) : c.raw.extract 28 32 = be 4 c.loc := by
  obtain ⟨_, _, _, _, _, _, _, h8, h9⟩ := c.may_all h
  have e : c.raw = (be 8 c.made ++ be 4 c.mine ++ be 4 c.yours ++ be 4 c.myTsn ++ be 4 c.yourTsn ++ be 4 c.peer) ++ ((be 4 c.loc) ++ (be 2 c.pp ++ be 2 c.mp ++ be 4 c.rwnd ++ be 2 c.out ++ be 2 c.inn ++ be 4 c.t1 ++ be 4 c.t2 ++ c.r1 ++ c.r2)) := by unfold Ck.raw; simp only [ByteArray.append_assoc]
  rw [e]
  exact ext_m _ _ _ _ _ (by simp only [ByteArray.size_append, be_size, h8, h9]) (by simp only [ByteArray.size_append, be_size, h8, h9])
theorem raw_7 (c : Ck) (h : c.may = true) : c.raw.extract 32 34 = be 2 c.pp := by
  obtain ⟨_, _, _, _, _, _, _, h8, h9⟩ := c.may_all h
  have e : c.raw = (be 8 c.made ++ be 4 c.mine ++ be 4 c.yours ++ be 4 c.myTsn ++ be 4 c.yourTsn ++ be 4 c.peer ++ be 4 c.loc) ++ ((be 2 c.pp) ++ (be 2 c.mp ++ be 4 c.rwnd ++ be 2 c.out ++ be 2 c.inn ++ be 4 c.t1 ++ be 4 c.t2 ++ c.r1 ++ c.r2)) := by unfold Ck.raw; simp only [ByteArray.append_assoc]
  rw [e]
  exact ext_m _ _ _ _ _ (by simp only [ByteArray.size_append, be_size, h8, h9]) (by simp only [ByteArray.size_append, be_size, h8, h9])
theorem raw_8 (c : Ck) (h : c.may = true) : c.raw.extract 34 36 = be 2 c.mp := by
  obtain ⟨_, _, _, _, _, _, _, h8, h9⟩ := c.may_all h
  have e : c.raw = (be 8 c.made ++ be 4 c.mine ++ be 4 c.yours ++ be 4 c.myTsn ++ be 4 c.yourTsn ++ be 4 c.peer ++ be 4 c.loc ++ be 2 c.pp) ++ ((be 2 c.mp) ++ (be 4 c.rwnd ++ be 2 c.out ++ be 2 c.inn ++ be 4 c.t1 ++ be 4 c.t2 ++ c.r1 ++ c.r2)) := by unfold Ck.raw; simp only [ByteArray.append_assoc]
  rw [e]
  exact ext_m _ _ _ _ _ (by simp only [ByteArray.size_append, be_size, h8, h9]) (by simp only [ByteArray.size_append, be_size, h8, h9])
theorem raw_9 (c : Ck) (h : c.may = true) : c.raw.extract 36 40 = be 4 c.rwnd := by
  obtain ⟨_, _, _, _, _, _, _, h8, h9⟩ := c.may_all h
  have e : c.raw = (be 8 c.made ++ be 4 c.mine ++ be 4 c.yours ++ be 4 c.myTsn ++ be 4 c.yourTsn ++ be 4 c.peer ++ be 4 c.loc ++ be 2 c.pp ++ be 2 c.mp) ++ ((be 4 c.rwnd) ++ (be 2 c.out ++ be 2 c.inn ++ be 4 c.t1 ++ be 4 c.t2 ++ c.r1 ++ c.r2)) := by unfold Ck.raw; simp only [ByteArray.append_assoc]
  rw [e]
  exact ext_m _ _ _ _ _ (by simp only [ByteArray.size_append, be_size, h8, h9]) (by simp only [ByteArray.size_append, be_size, h8, h9])
theorem raw_10 (c : Ck) (h : c.may = true) : c.raw.extract 40 42 = be 2 c.out := by
  obtain ⟨_, _, _, _, _, _, _, h8, h9⟩ := c.may_all h
  have e : c.raw = (be 8 c.made ++ be 4 c.mine ++ be 4 c.yours ++ be 4 c.myTsn ++ be 4 c.yourTsn ++ be 4 c.peer ++ be 4 c.loc ++ be 2 c.pp ++ be 2 c.mp ++ be 4 c.rwnd) ++ ((be 2 c.out) ++ (be 2 c.inn ++ be 4 c.t1 ++ be 4 c.t2 ++ c.r1 ++ c.r2)) := by unfold Ck.raw; simp only [ByteArray.append_assoc]
  rw [e]
  exact ext_m _ _ _ _ _ (by simp only [ByteArray.size_append, be_size, h8, h9]) (by simp only [ByteArray.size_append, be_size, h8, h9])
theorem raw_11 (c : Ck) (h : c.may = true) : c.raw.extract 42 44 = be 2 c.inn := by
  obtain ⟨_, _, _, _, _, _, _, h8, h9⟩ := c.may_all h
  have e : c.raw = (be 8 c.made ++ be 4 c.mine ++ be 4 c.yours ++ be 4 c.myTsn ++ be 4 c.yourTsn ++ be 4 c.peer ++ be 4 c.loc ++ be 2 c.pp ++ be 2 c.mp ++ be 4 c.rwnd ++ be 2 c.out) ++ ((be 2 c.inn) ++ (be 4 c.t1 ++ be 4 c.t2 ++ c.r1 ++ c.r2)) := by unfold Ck.raw; simp only [ByteArray.append_assoc]
  rw [e]
  exact ext_m _ _ _ _ _ (by simp only [ByteArray.size_append, be_size, h8, h9]) (by simp only [ByteArray.size_append, be_size, h8, h9])
theorem raw_12 (c : Ck) (h : c.may = true) : c.raw.extract 44 48 = be 4 c.t1 := by
  obtain ⟨_, _, _, _, _, _, _, h8, h9⟩ := c.may_all h
  have e : c.raw = (be 8 c.made ++ be 4 c.mine ++ be 4 c.yours ++ be 4 c.myTsn ++ be 4 c.yourTsn ++ be 4 c.peer ++ be 4 c.loc ++ be 2 c.pp ++ be 2 c.mp ++ be 4 c.rwnd ++ be 2 c.out ++ be 2 c.inn) ++ ((be 4 c.t1) ++ (be 4 c.t2 ++ c.r1 ++ c.r2)) := by unfold Ck.raw; simp only [ByteArray.append_assoc]
  rw [e]
  exact ext_m _ _ _ _ _ (by simp only [ByteArray.size_append, be_size, h8, h9]) (by simp only [ByteArray.size_append, be_size, h8, h9])
theorem raw_13 (c : Ck) (h : c.may = true) : c.raw.extract 48 52 = be 4 c.t2 := by
  obtain ⟨_, _, _, _, _, _, _, h8, h9⟩ := c.may_all h
  have e : c.raw = (be 8 c.made ++ be 4 c.mine ++ be 4 c.yours ++ be 4 c.myTsn ++ be 4 c.yourTsn ++ be 4 c.peer ++ be 4 c.loc ++ be 2 c.pp ++ be 2 c.mp ++ be 4 c.rwnd ++ be 2 c.out ++ be 2 c.inn ++ be 4 c.t1) ++ ((be 4 c.t2) ++ (c.r1 ++ c.r2)) := by unfold Ck.raw; simp only [ByteArray.append_assoc]
  rw [e]
  exact ext_m _ _ _ _ _ (by simp only [ByteArray.size_append, be_size, h8, h9]) (by simp only [ByteArray.size_append, be_size, h8, h9])
theorem raw_14 (c : Ck) (h : c.may = true) : c.raw.extract 52 68 = c.r1 := by
  obtain ⟨_, _, _, _, _, _, _, h8, h9⟩ := c.may_all h
  have e : c.raw = (be 8 c.made ++ be 4 c.mine ++ be 4 c.yours ++ be 4 c.myTsn ++ be 4 c.yourTsn ++ be 4 c.peer ++ be 4 c.loc ++ be 2 c.pp ++ be 2 c.mp ++ be 4 c.rwnd ++ be 2 c.out ++ be 2 c.inn ++ be 4 c.t1 ++ be 4 c.t2) ++ ((c.r1) ++ (c.r2)) := by unfold Ck.raw; simp only [ByteArray.append_assoc]
  rw [e]
  exact ext_m _ _ _ _ _ (by simp only [ByteArray.size_append, be_size, h8, h9]) (by simp only [ByteArray.size_append, be_size, h8, h9])
theorem raw_15 (c : Ck) (h : c.may = true) : c.raw.extract 68 84 = c.r2 := by
  obtain ⟨_, _, _, _, _, _, _, h8, h9⟩ := c.may_all h
  unfold Ck.raw
  exact ext_r _ _ _ _ (by simp only [ByteArray.size_append, be_size, h8, h9]) (by simp only [ByteArray.size_append, be_size, h8, h9])
end Go.SL
namespace Go.Proofs.Ytpghbkkjdfaflaa
open Go.SL
attribute [local irreducible] Val ValS Does WN WB WK Sat Ctr Wn Tfin
set_option linter.unusedVariables false
set_option linter.unusedSimpArgs false
open Go.RowKit
attribute [local irreducible] be
theorem ckOf_raw (c : Ck) (h : c.may = true) (ok : c.Ok) : ckOf c.raw = c := by
  obtain ⟨h1, _, _, h4, h5, h6, h7, h8, h9⟩ := c.may_all h
  have k4 : ∀ x, Rng x → beN (be 4 x) = x := fun x hx => beN_be_lt 4 x hx.1 (by have := hx.2; omega)
  have k2 : ∀ x, (0 ≤ x ∧ x < 65536) → beN (be 2 x) = x := fun x hx => beN_be_lt 2 x hx.1 (by have := hx.2; omega)
  have k8 : IntKind.i64.wrap (beN (be 8 c.made)) = c.made := by
    have := ok.made
    rw [beN_be_lt 8 c.made h1 (by omega)]
    exact wrap_i64 _ (by omega) (by omega)
  unfold ckOf
  rw [raw_0 c h, raw_1 c h, raw_2 c h, raw_3 c h, raw_4 c h, raw_5 c h, raw_6 c h, raw_7 c h, raw_8 c h, raw_9 c h, raw_10 c h, raw_11 c h, raw_12 c h, raw_13 c h, raw_14 c h, raw_15 c h]
  rw [k8, k4 _ ok.mine, k4 _ ok.yours, k4 _ ok.myTsn, k4 _ ok.yourTsn, k4 _ ok.peer, k4 _ ok.loc, k2 _ h4, k2 _ h5, k4 _ ok.rwnd, k2 _ h6, k2 _ h7, k4 _ ok.t1, k4 _ ok.t2]
theorem put_parts (key : ByteArray) (c : Ck) (h : c.may = true) : (c.put key).size = 104 ∧ (c.put key).extract 0 (((c.put key).size : Int) - 20).toNat = c.raw ∧ (c.put key).extract (((c.put key).size : Int) - 20).toNat (c.put key).size = macB key c.raw := by
  have hs := Ck.raw_size h
  have hm := macB_size key c.raw
  have e : c.put key = c.raw ++ macB key c.raw := by unfold Ck.put; rw [h]; rfl
  have hz : (c.put key).size = 104 := by rw [e, ByteArray.size_append]; omega
  refine ⟨hz, ?_, ?_⟩
  · rw [hz, e]
    exact ext_l _ _ _ hs
  · rw [hz, e]
    exact ext_r _ _ _ _ hs (by rw [hm]; rfl)
theorem getPut_c (key : ByteArray) (now : Int) (c : Ck) (h : c.may = true) (ok : c.Ok) (hnow : -9223372036854775808 ≤ now ∧ now ≤ 9223372036854775807) (hk : key.size ≤ 1000000) : Ctr Try.prog 57 [.string key, .string (c.put key), .int .i64 now] [] (fun v L => v = (if lateB now c.made then .tuple #[c.v, .int .i64 (now - c.made - 600), .int .i64 101] else .tuple #[c.v, .int .i64 0, .int .i64 0]) ∧ L = []) := by
  obtain ⟨p1, p2, p3⟩ := put_parts key c h
  obtain ⟨h1, _⟩ := c.may_all h
  have hP := parseL_c c.raw (by rw [Ck.raw_size h]; omega)
  rw [ckOf_raw c h ok, if_pos ⟨Ck.raw_size h, h⟩] at hP
  refine getOk_c key (c.put key) now c hnow ⟨h1, ok.made.2⟩ hk (by omega) (by rw [p2, p3]) ?_
  rw [p2]
  exact hP
end Go.Proofs.Ytpghbkkjdfaflaa
