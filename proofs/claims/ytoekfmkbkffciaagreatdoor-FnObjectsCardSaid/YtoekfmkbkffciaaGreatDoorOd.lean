/- Contracts of functions of the program: no statement of the seat is proved here. Each under the conditions that stand in it. -/
import Derived.Test.YtoekfmkbkffciaaGreatDoorOc
import Derived.Test.YtoekfmkbkffciaaGreatDoorM7
set_option linter.all false
namespace Go.Proofs.YtoekfmkbkffciaaGreatDoor
open Go.Vs Go.Proofs
theorem apName_sz {n : Name} {s : ByteArray} (hn : strsSize n.parts ≤ 54) : strsSize (apName n s).parts ≤ 54 := by
  unfold apName
  split
  · rename_i h; exact vName_sz h
  · exact hn
def mdX (b : Bool) (x : Data) : Data := if b = true then ⟨x.name, x.content ++ [1], x.keyName, x.fresh, x.sig⟩ else x
theorem swkR_len {l : List Keyy} {key n : Name} {b : List UInt8} {till : Int} : (swkR l key n b till).content.length ≤ b.length := by
  unfold swkR
  split
  · exact Nat.le_refl _
  · exact Nat.zero_le _
def sLa : ByteArray := ⟨#[97]⟩
def sLb : ByteArray := ⟨#[98]⟩
def lAB : List ByteArray := [sLa, sLb]
def l12 : List ByteArray := [⟨#[49]⟩, ⟨#[50]⟩, ⟨#[120, 45, 49]⟩]
def lBad : List ByteArray := [sBad, sKeyA, sAKey]
theorem lBad_size : ∀ s ∈ lBad, s.size ≤ 9 := by decide
theorem lAB_size : ∀ s ∈ lAB, s.size ≤ 1 := by decide
theorem l12_size : ∀ s ∈ l12, s.size ≤ 3 := by decide
abbrev TD (t : Tru) (x : Data) : Arg := (.tup [(true, 4), (true, 5)], Tru.c false t ++ Data.c true x)
theorem is24 : FI 24 Tryz.f24 := ⟨⟨Tryz.f24, Tryz.func24, rfl, rfl, rfl, rfl⟩, rfl⟩
set_option maxRecDepth 20000 in
set_option maxHeartbeats 16000000 in
theorem l11Made0 (c0 c1 c2 c3 c4 c5 c6 c7 : List AV) (t : Tru) (v u w : ByteArray) (b6 b8 : Bool) (k : Int) (y : List UInt8) (hv : v.size ≤ 1) (hu : u.size ≤ 3) (hw : w.size ≤ 9) (hy : y.length ≤ 4) (ht : t.keys.length + sumN Keyy.size t.keys ≤ 1048576)    (k1 : FO 48 [O (.own c0), Ss false lAB] [O (.own c1), Ss false lAB] (S v)) (k2 : FO 48 [O (.own c1), Ss false l12] [O (.own c2), Ss false l12] (S u)) (k3 : FO 47 [O (.own c2), I 6] [O (.own c3), I 6] (B b6))    (k4 : (b6 = false ∧ c4 = c3) ∨ (b6 = true ∧ FO 48 [O (.own c3), Ss false lBad] [O (.own c4), Ss false lBad] (S w))) (k5 : FO 22 [O (.own c4), I 4] [O (.own c5), I 4] (I k)) (k6 : FO 21 [O (.own c5), I k] [O (.own c6), I k] (Ys true y)) (k7 : FO 47 [O (.own c6), I 8] [O (.own c7), I 8] (B b8)) : FO 24 [O (.own c0), A (Tru.c false t)] [O (.own c7), A (Tru.c false t)] (A (Data.c true (mdX b8 (swkR t.keys (if b6 = true then pN w else pN ((⟨#[47]⟩ ++ v) ++ ⟨#[47, 107, 101, 121]⟩)) (apName (pN (⟨#[47]⟩ ++ v)) u) y 4000)))) := by
  refine fok envOk mixed is24 ⟨rfl, rfl, ?_⟩
  have e1 : ((⟨#[47]⟩ : ByteArray) ++ v).size = 1 + v.size := by rw [ByteArray.size_append]; rfl
  have e2 : (((⟨#[47]⟩ : ByteArray) ++ v) ++ (⟨#[47, 107, 101, 121]⟩ : ByteArray)).size = 1 + v.size + 4 := by rw [ByteArray.size_append, e1]; rfl
  have hO1 := s_l4Of (⟨#[47]⟩ ++ v) (by omega)
  have hO2 := s_l4Of ((⟨#[47]⟩ ++ v) ++ ⟨#[47, 107, 101, 121]⟩) (by omega)
  have hO3 := s_l4Of w (by omega)
  have hz1 := pN_sz (⟨#[47]⟩ ++ v)
  have hz2 := pN_sz ((⟨#[47]⟩ ++ v) ++ ⟨#[47, 107, 101, 121]⟩)
  have hz3 := pN_sz w
  have hP := s_AppendPart (pN (⟨#[47]⟩ ++ v)) u (by omega) (by omega)
  have hz4 := @apName_sz (pN (⟨#[47]⟩ ++ v)) u hz1
  have q1 : (((⟨#[47]⟩ : ByteArray).size + v.size : Nat) : Int) ≤ IntKind.i64.max := by
    have : (⟨#[47]⟩ : ByteArray).size = 1 := rfl
    rw [this, show IntKind.i64.max = 9223372036854775807 from rfl]; omega
  have q2 : ((((⟨#[47]⟩ : ByteArray) ++ v).size + (⟨#[47, 107, 101, 121]⟩ : ByteArray).size : Nat) : Int) ≤ IntKind.i64.max := by
    have : (⟨#[47, 107, 101, 121]⟩ : ByteArray).size = 4 := rfl
    rw [this, e1, show IntKind.i64.max = 9223372036854775807 from rfl]; omega
  generalize apName (pN (⟨#[47]⟩ ++ v)) u = n at *
  generalize vName ⟨(pN (⟨#[47]⟩ ++ v)).parts ++ [u]⟩ = no at *
  generalize pN (⟨#[47]⟩ ++ v) = p1 at *
  generalize pN ((⟨#[47]⟩ ++ v) ++ ⟨#[47, 107, 101, 121]⟩) = p2 at *
  generalize pN w = p3 at *
  rcases k4 with ⟨rfl, rfl⟩ | ⟨rfl, k4⟩
  · have hS := s_SignWithKey t.keys p2 n y 4000 ht (by omega) (by omega) (by omega)
    simp only [Bool.false_eq_true, if_false]
    have hxl := @swkR_len t.keys p2 n y 4000
    generalize swkR t.keys p2 n y 4000 = x at *
    generalize swkO t.keys p2 n y 4000 = xo at *
    cases b8 with
    | false =>
      (repeat' ((conv => whnf); first | refine stp ?_ | refine Cl.eq k1 (by simp only [shcLL, shcL, Vs.shc]; rfl) ?_ | refine Cl.mk (hO1) ?_ | refine Cl.eq k2 (by simp only [shcLL, shcL, Vs.shc]; rfl) ?_ | refine Cl.mk (hP) ?_ | refine Cl.mk (hO2) ?_ | refine Cl.mk (k3) ?_ | refine Cl.mk (k5) ?_ | refine Cl.mk (k6) ?_ | refine Cl.mk (hS) ?_ | refine Rq.mk (dOwn_DB _ _) ?_ | refine Cl.mk (k7) ?_ | refine Rq.mk q1 ?_ | refine Rq.mk q2 ?_ | refine Rq.mk (by simp; omega) ?_ | refine Cl.pre (by simp only [shcLL_ints, shcLL_byts, shcLL_strs, Data.shcs, Fetc.shcs, Gran.shcs, Keyy.shcs, Mani.shcs, Name.shcs, Read.shcs, Rout.shcs, Rul.shcs, Segm.shcs, TEnt.shcs, Tru.shcs]; rfl) ?_))
      exact Vs.Fin.mk (WkR.refl _) (.refl _)
    | true =>
      (repeat' ((conv => whnf); first | refine stp ?_ | refine Cl.eq k1 (by simp only [shcLL, shcL, Vs.shc]; rfl) ?_ | refine Cl.mk (hO1) ?_ | refine Cl.eq k2 (by simp only [shcLL, shcL, Vs.shc]; rfl) ?_ | refine Cl.mk (hP) ?_ | refine Cl.mk (hO2) ?_ | refine Cl.mk (k3) ?_ | refine Cl.mk (k5) ?_ | refine Cl.mk (k6) ?_ | refine Cl.mk (hS) ?_ | refine Rq.mk (dOwn_DB _ _) ?_ | refine Cl.mk (k7) ?_ | refine Rq.mk q1 ?_ | refine Rq.mk q2 ?_ | refine Rq.mk (by simp; omega) ?_ | refine Cl.pre (by simp only [shcLL_ints, shcLL_byts, shcLL_strs, Data.shcs, Fetc.shcs, Gran.shcs, Keyy.shcs, Mani.shcs, Name.shcs, Read.shcs, Rout.shcs, Rul.shcs, Segm.shcs, TEnt.shcs, Tru.shcs]; rfl) ?_))
      refine Vs.Fin.mk (WkR.of (.keep (.sl1 ?_ (.refl _)))) (.refl _)
      simp [mdX]
  · have hS := s_SignWithKey t.keys p3 n y 4000 ht (by omega) (by omega) (by omega)
    simp only [if_true]
    have hxl := @swkR_len t.keys p3 n y 4000
    generalize swkR t.keys p3 n y 4000 = x at *
    generalize swkO t.keys p3 n y 4000 = xo at *
    cases b8 with
    | false =>
      (repeat' ((conv => whnf); first | refine stp ?_ | refine Cl.eq k1 (by simp only [shcLL, shcL, Vs.shc]; rfl) ?_ | refine Cl.mk (hO1) ?_ | refine Cl.eq k2 (by simp only [shcLL, shcL, Vs.shc]; rfl) ?_ | refine Cl.mk (hP) ?_ | refine Cl.mk (hO2) ?_ | refine Cl.mk (k3) ?_ | refine Cl.eq k4 (by simp only [shcLL, shcL, Vs.shc]; rfl) ?_ | refine Cl.mk (hO3) ?_ | refine Cl.mk (k5) ?_ | refine Cl.mk (k6) ?_ | refine Cl.mk (hS) ?_ | refine Rq.mk (dOwn_DB _ _) ?_ | refine Cl.mk (k7) ?_ | refine Rq.mk q1 ?_ | refine Rq.mk q2 ?_ | refine Rq.mk (by simp; omega) ?_ | refine Cl.pre (by simp only [shcLL_ints, shcLL_byts, shcLL_strs, Data.shcs, Fetc.shcs, Gran.shcs, Keyy.shcs, Mani.shcs, Name.shcs, Read.shcs, Rout.shcs, Rul.shcs, Segm.shcs, TEnt.shcs, Tru.shcs]; rfl) ?_))
      exact Vs.Fin.mk (WkR.refl _) (.refl _)
    | true =>
      (repeat' ((conv => whnf); first | refine stp ?_ | refine Cl.eq k1 (by simp only [shcLL, shcL, Vs.shc]; rfl) ?_ | refine Cl.mk (hO1) ?_ | refine Cl.eq k2 (by simp only [shcLL, shcL, Vs.shc]; rfl) ?_ | refine Cl.mk (hP) ?_ | refine Cl.mk (hO2) ?_ | refine Cl.mk (k3) ?_ | refine Cl.eq k4 (by simp only [shcLL, shcL, Vs.shc]; rfl) ?_ | refine Cl.mk (hO3) ?_ | refine Cl.mk (k5) ?_ | refine Cl.mk (k6) ?_ | refine Cl.mk (hS) ?_ | refine Rq.mk (dOwn_DB _ _) ?_ | refine Cl.mk (k7) ?_ | refine Rq.mk q1 ?_ | refine Rq.mk q2 ?_ | refine Rq.mk (by simp; omega) ?_ | refine Cl.pre (by simp only [shcLL_ints, shcLL_byts, shcLL_strs, Data.shcs, Fetc.shcs, Gran.shcs, Keyy.shcs, Mani.shcs, Name.shcs, Read.shcs, Rout.shcs, Rul.shcs, Segm.shcs, TEnt.shcs, Tru.shcs]; rfl) ?_))
      refine Vs.Fin.mk (WkR.of (.keep (.sl1 ?_ (.refl _)))) (.refl _)
      simp [mdX]
theorem is6 : FI 6 Tryz.f6 := ⟨⟨Tryz.f6, Tryz.func6, rfl, rfl, rfl, rfl⟩, rfl⟩
set_option maxRecDepth 20000 in
set_option maxHeartbeats 16000000 in
theorem DMade0 (l : List UInt8) (c0 c1 c2 : List AV) (t : Tru) (x : Data) (k0 : FO 20 [Ys false l] [Ys false l] (O (.own c0))) (k1 : FO 23 [O (.own c0)] [O (.own c1)] (A (Tru.c false t))) (k2 : FO 24 [O (.own c1), A (Tru.c false t)] [O (.own c2), A (Tru.c false t)] (A (Data.c true x))) : FO 6 [Ys false l] [Ys false l] (TD t x) := by
  refine fok envOk mixed is6 ⟨rfl, rfl, ?_⟩
  (repeat' ((conv => whnf); first | refine stp ?_ | refine Cl.mk (k0) ?_ | refine Cl.mk (k1) ?_ | refine Cl.mk (k2) ?_ | refine Cl.pre (by simp only [shcLL_ints, shcLL_byts, shcLL_strs, Data.shcs, Fetc.shcs, Gran.shcs, Keyy.shcs, Mani.shcs, Name.shcs, Read.shcs, Rout.shcs, Rul.shcs, Segm.shcs, TEnt.shcs, Tru.shcs]; rfl) ?_))
  exact Vs.Fin.mk (WkR.refl _) (.refl _)
end Go.Proofs.YtoekfmkbkffciaaGreatDoor
