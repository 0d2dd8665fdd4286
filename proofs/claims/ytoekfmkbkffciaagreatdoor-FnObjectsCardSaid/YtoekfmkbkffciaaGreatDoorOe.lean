/- Contracts of functions of the program: no statement of the seat is proved here. Each under the conditions that stand in it. -/
import Derived.Test.YtoekfmkbkffciaaGreatDoorOd
set_option linter.all false
namespace Go.Proofs.YtoekfmkbkffciaaGreatDoor
open Go.Vs Go.Proofs
theorem R1_eq : spl 32 [] sR1.data.toList = [⟨#[47, 63, 120, 47, 107, 101, 121]⟩, sLt, sKeyA] := by decide +kernel
theorem R2_eq : spl 32 [] sR2.data.toList = [⟨#[47, 63, 120, 47, 42, 42]⟩, sLt, ⟨#[47, 63, 120, 47, 107, 101, 121]⟩] := by decide +kernel
def sQx : ByteArray := ⟨#[63, 120]⟩
def sKk : ByteArray := ⟨#[107, 101, 121]⟩
def qKey : List ByteArray := [sQx, sKk]
def qAll : List ByteArray := [sQx, sSs]
def qA : List ByteArray := [sKk, sLa]
theorem pP_key : pP ⟨#[47, 63, 120, 47, 107, 101, 121]⟩ = qKey ∧ pPO ⟨#[47, 63, 120, 47, 107, 101, 121]⟩ = true := by decide +kernel
theorem pP_all : pP ⟨#[47, 63, 120, 47, 42, 42]⟩ = qAll ∧ pPO ⟨#[47, 63, 120, 47, 42, 42]⟩ = true := by decide +kernel
theorem pP_a : pP sKeyA = qA ∧ pPO sKeyA = true := by decide +kernel
theorem vR1 : vRul qKey qA = true := by decide +kernel
theorem vR2 : vRul qAll qKey = true := by decide +kernel
theorem q_sz : strsSize qKey ≤ 1048576 ∧ strsSize qAll ≤ 1048576 ∧ strsSize qA ≤ 1048576 := by decide +kernel
def T4 (C : List Data) : Tru := ⟨K4, [⟨qKey, qA⟩, ⟨qAll, qKey⟩], [pN sKeyA], C⟩
theorem K4_sz : K4.length + sumN Keyy.size K4 ≤ 1048576 := by
  have h1 := @pN_key sKeyA 100
  have h2 := @pN_key sAKey 101
  have h3 := @pN_key sBKey 102
  have h4 := @pN_key sBad 103
  have e : K4.length + sumN Keyy.size K4 = 4 + (Keyy.size ⟨pN sKeyA, 100⟩ + (Keyy.size ⟨pN sAKey, 101⟩ + (Keyy.size ⟨pN sBKey, 102⟩ + (Keyy.size ⟨pN sBad, 103⟩ + 0)))) := rfl
  omega
theorem swkR_zz {l : List Keyy} {key n : Name} {b : List UInt8} {till : Int} (h : strsSize key.parts ≤ 1048576) (hn : strsSize n.parts ≤ 1048576) (hb : b.length ≤ 1048576) : (swkR l key n b till).sz := by
  unfold swkR
  split
  · exact swk_sz h hn hb
  · exact ⟨Nat.zero_le _, Nat.zero_le _, Nat.zero_le _⟩
theorem pr1 : FO 45 [S sR1] [S sR1] (RB ⟨qKey, qA⟩) := by
  have h := s_ParseRule sR1 _ _ (by decide) R1_eq (by decide) (by decide) pP_key.2 pP_a.2 (by rw [pP_key.1]; exact q_sz.1) (by rw [pP_a.1]; exact q_sz.2.2) (by rw [pP_key.1, pP_a.1]; exact vR1)
  rw [pP_key.1, pP_a.1] at h
  exact h
theorem pr2 : FO 45 [S sR2] [S sR2] (RB ⟨qAll, qKey⟩) := by
  have h := s_ParseRule sR2 _ _ (by decide) R2_eq (by decide) (by decide) pP_all.2 pP_key.2 (by rw [pP_all.1]; exact q_sz.2.1) (by rw [pP_key.1]; exact q_sz.1) (by rw [pP_all.1, pP_key.1]; exact vR2)
  rw [pP_all.1, pP_key.1] at h
  exact h
theorem cert_step {c : List AV} (hc : IsC c) (o : Bool) (C : List Data) (x : Data) : ∃ (c' : List AV) (C' : List Data), IsC c' ∧ ((o = false ∧ c' = c ∧ C' = C) ∨ (o = true ∧ ∃ b, FO 47 [O (.own c), I 8] [O (.own c'), I 8] (B b) ∧ C' = if b = true then C else C ++ [x])) ∧ (C' = C ∨ C' = C ++ [x]) := by
  cases o with
  | false => exact ⟨c, C, hc, .inl ⟨rfl, rfl, rfl⟩, .inl rfl⟩
  | true =>
    obtain ⟨c', b, i, k⟩ := once_ok hc 8
    refine ⟨c', if b = true then C else C ++ [x], i, .inr ⟨rfl, b, k, rfl⟩, ?_⟩
    cases b <;> simp
theorem trust_ok {c : List AV} (hc : IsC c) : ∃ (c' : List AV) (C : List Data), IsC c' ∧ C.length ≤ 2 ∧ (∀ y ∈ C, y.sz) ∧ FO 23 [O (.own c)] [O (.own c')] (A (Tru.c false (T4 C))) := by
  have hA := pN_sz sAKey
  have hB := pN_sz sBKey
  have hK := pN_sz sKeyA
  have ka := s_Issue K4 (pN sAKey) (pN sKeyA) 5000 K4_sz (by omega) (by omega)
  have kb := s_Issue K4 (pN sBKey) (pN sKeyA) 5000 K4_sz (by omega) (by omega)
  have da := kDig_len K4 (pN sAKey)
  have db := kDig_len K4 (pN sBKey)
  have za := swkR_zz (l := K4) (key := pN sKeyA) (n := pN sAKey) (b := kDig K4 (pN sAKey)) (till := 5000) (by omega) (by omega) (by omega)
  have zb := swkR_zz (l := K4) (key := pN sKeyA) (n := pN sBKey) (b := kDig K4 (pN sBKey)) (till := 5000) (by omega) (by omega) (by omega)
  generalize swkR K4 (pN sKeyA) (pN sAKey) (kDig K4 (pN sAKey)) 5000 = xa at ka za
  generalize swkR K4 (pN sKeyA) (pN sBKey) (kDig K4 (pN sBKey)) 5000 = xb at kb zb
  obtain ⟨c1, C1, i1, h1, e1⟩ := cert_step hc (swkO K4 (pN sKeyA) (pN sAKey) (kDig K4 (pN sAKey)) 5000) [] xa
  obtain ⟨c2, C2, i2, h2, e2⟩ := cert_step i1 (swkO K4 (pN sKeyA) (pN sBKey) (kDig K4 (pN sBKey)) 5000) C1 xb
  have hC1 : C1.length ≤ 1 ∧ ∀ y ∈ C1, y.sz := by
    rcases e1 with rfl | rfl
    · simp
    · simpa using za
  have hC2 : C2.length ≤ 2 ∧ ∀ y ∈ C2, y.sz := by
    rcases e2 with rfl | rfl
    · exact ⟨by omega, hC1.2⟩
    · refine ⟨by simp; omega, fun y hy => ?_⟩
      rcases List.mem_append.1 hy with hy | hy
      · exact hC1.2 y hy
      · simp at hy; rw [hy]; exact zb
  exact ⟨c2, C2, i2, hC2.1, hC2.2, l11Trust0 c c1 c2 _ _ xa xb _ _ C1 C2 hC1.1 pr1 pr2 ka kb h1 h2⟩
theorem made_ok {c : List AV} (hc : IsC c) (t : Tru) (ht : t.keys.length + sumN Keyy.size t.keys ≤ 1048576) : ∃ (c' : List AV) (x : Data), FO 24 [O (.own c), A (Tru.c false t)] [O (.own c'), A (Tru.c false t)] (A (Data.c true x)) := by
  obtain ⟨c1, v, i1, hv, k1⟩ := str_ok hc lAB (by decide) (by decide)
  obtain ⟨c2, u, i2, hu, k2⟩ := str_ok i1 l12 (by decide) (by decide)
  obtain ⟨c3, b6, i3, k3⟩ := once_ok i2 6
  have h4 : ∃ (c4 : List AV) (w : ByteArray), IsC c4 ∧ w.size ≤ 9 ∧ ((b6 = false ∧ c4 = c3) ∨ (b6 = true ∧ FO 48 [O (.own c3), Ss false lBad] [O (.own c4), Ss false lBad] (S w))) := by
    cases b6 with
    | false => exact ⟨c3, sLa, i3, by decide, .inl ⟨rfl, rfl⟩⟩
    | true =>
      obtain ⟨c4, w, i4, hw, k4⟩ := str_ok i3 lBad (by decide) (by decide)
      exact ⟨c4, w, i4, lBad_size w hw, .inr ⟨rfl, k4⟩⟩
  obtain ⟨c4, w, i4, hw, k4⟩ := h4
  obtain ⟨c5, k, i5, hk, -, k5⟩ := below_ok i4 4
  have hk := hk (by omega)
  obtain ⟨c6, y, i6, hy, k6⟩ := bytes_ok i5 k (by omega)
  obtain ⟨c7, b8, i7, k7⟩ := once_ok i6 8
  exact ⟨c7, _, l11Made0 c c1 c2 c3 c4 c5 c6 c7 t v u w b6 b8 k y (lAB_size v hv) (l12_size u hu) hw (by omega) ht k1 k2 k3 k4 k5 k6 k7⟩
theorem DMade_ok (l : List UInt8) (hl : l.length ≤ 1048576) : ∃ (C : List Data) (x : Data), C.length ≤ 2 ∧ (∀ y ∈ C, y.sz) ∧ FO 6 [Ys false l] [Ys false l] (TD (T4 C) x) := by
  obtain ⟨c0, i0, k0⟩ := new_ok l hl
  obtain ⟨c1, C, i1, h1, h2, k1⟩ := trust_ok i0
  obtain ⟨c2, x, k2⟩ := made_ok i1 (T4 C) K4_sz
  exact ⟨C, x, h1, h2, DMade0 l c0 c1 c2 (T4 C) x k0 k1 k2⟩
structure Bnd where
  lt : ByteArray
  vl : ByteArray
abbrev Bnd.c (_ : Bool) (b : Bnd) : List AV := [cS b.lt, cS b.vl]
theorem Bnd.shc (p : Bnd) : shcL (Bnd.c true p) = Bnd.c false p := rfl
@[simp] theorem Bnd.shcs (l : List Bnd) : shcLL (l.map (Bnd.c true)) = l.map (Bnd.c false) := shcLL_map Bnd.shc l
theorem shcLL_B (l : List Bnd) : shcLL (l.map (Bnd.c false)) = l.map (Bnd.c false) := shcLL_map (fun _ => rfl) l
end Go.Proofs.YtoekfmkbkffciaaGreatDoor
