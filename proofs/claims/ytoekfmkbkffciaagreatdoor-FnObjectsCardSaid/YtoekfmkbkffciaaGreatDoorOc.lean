/- Contracts of functions of the program: no statement of the seat is proved here. Each under the conditions that stand in it. -/
import Derived.Test.YtoekfmkbkffciaaGreatDoorOb
import Derived.Test.YtoekfmkbkffciaaGreatDoorM7
import Derived.Test.YtoekfmkbkffciaaGreatDoorM16
set_option linter.all false
namespace Go.Proofs.YtoekfmkbkffciaaGreatDoor
open Go.Vs Go.Proofs
/-! A trust policy, drawn -/
structure Rul where
  dat : List ByteArray
  key : List ByteArray
abbrev Rul.c (o : Bool) (r : Rul) : List AV := [cSs o r.dat, cSs o r.key]
structure Tru where
  keys : List Keyy
  rules : List Rul
  anchors : List Name
  certs : List Data
abbrev Tru.c (o : Bool) (t : Tru) : List AV := [sl o 2 (t.keys.map (Keyy.c o)), sl o 2 (t.rules.map (Rul.c o)), sl o 1 (t.anchors.map (Name.c o)), sl o 5 (t.certs.map (Data.c o))]
theorem Rul.shc (p : Rul) : shcL (Rul.c true p) = Rul.c false p := by simp [Rul.c, shcL, Vs.shc, shcLL_strs]
@[simp] theorem Rul.shcs (l : List Rul) : shcLL (l.map (Rul.c true)) = l.map (Rul.c false) := shcLL_map Rul.shc l
theorem Tru.shc (p : Tru) : shcL (Tru.c true p) = Tru.c false p := by simp [Tru.c, shcL, Vs.shc]
@[simp] theorem Tru.shcs (l : List Tru) : shcLL (l.map (Tru.c true)) = l.map (Tru.c false) := shcLL_map Tru.shc l
def sR1 : ByteArray := ⟨#[47, 63, 120, 47, 107, 101, 121, 32, 60, 32, 47, 107, 101, 121, 47, 97]⟩
def sR2 : ByteArray := ⟨#[47, 63, 120, 47, 42, 42, 32, 60, 32, 47, 63, 120, 47, 107, 101, 121]⟩
def sAKey : ByteArray := ⟨#[47, 97, 47, 107, 101, 121]⟩
def sBKey : ByteArray := ⟨#[47, 98, 47, 107, 101, 121]⟩
def sBad : ByteArray := ⟨#[47, 98, 97, 100, 47, 107, 101, 121]⟩
def K4 : List Keyy := [⟨pN sKeyA, 100⟩, ⟨pN sAKey, 101⟩, ⟨pN sBKey, 102⟩, ⟨pN sBad, 103⟩]
abbrev RB (r : Rul) : Arg := (.tup [(true, 2), (false, 1)], [cSs false r.dat, cSs false r.key, cB true])
theorem shcLL_R (l : List Rul) : shcLL (l.map (Rul.c false)) = l.map (Rul.c false) := by
  induction l with
  | nil => rfl
  | cons x l ih => simp only [List.map_cons, shcLL, ih]; simp [shcL, Vs.shc]
theorem shcLL_N (l : List Name) : shcLL (l.map (Name.c false)) = l.map (Name.c false) := by
  induction l with
  | nil => rfl
  | cons x l ih => simp only [List.map_cons, shcLL, ih]; simp [Name.c, shcL, Vs.shc]
theorem dOwn_DB (d : Data) (b : Bool) : dOwnL (DB d b).2 := by simp [dOwnL, dOwn, Data.c]
theorem tru_sh (K : List Keyy) (R : List Rul) (N : List Name) (C : List Data) : WkR (A [.sl true .non 2 (K.map (Keyy.c false)), .sl true .unk 2 (R.map (Rul.c false)), .sl true .non 1 (N.map (Name.c false)), .sl true .unk 5 (C.map (Data.c true))]) (A (Tru.c false ⟨K, R, N, C⟩)) := by
  refine ⟨rfl, .inr ?_⟩
  simp only [shcL, Vs.shc, shcLL_K, shcLL_R, shcLL_N, Data.shcs]
  exact .sl1 rfl (.sl1 rfl (.sl1 rfl (.sl1 rfl .nil)))
set_option maxHeartbeats 32000000
theorem is23 : FI 23 Tryz.f23 := ⟨⟨Tryz.f23, Tryz.func23, rfl, rfl, rfl, rfl⟩, rfl⟩
set_option maxRecDepth 20000 in
set_option maxHeartbeats 16000000 in
theorem l11Trust0 (c0 c1 c2 : List AV) (R1 R2 : Rul) (xa xb : Data) (oa ob : Bool) (C1 C2 : List Data) (hC : C1.length ≤ 1) (kr1 : FO 45 [S sR1] [S sR1] (RB R1)) (kr2 : FO 45 [S sR2] [S sR2] (RB R2))    (ka : FO 46 [Ks false K4, A (Name.c false (pN sAKey)), A (Name.c false (pN sKeyA)), I 5000] [Ks false K4, A (Name.c false (pN sAKey)), A (Name.c false (pN sKeyA)), I 5000] (DB xa oa))    (kb : FO 46 [Ks false K4, A (Name.c false (pN sBKey)), A (Name.c false (pN sKeyA)), I 5000] [Ks false K4, A (Name.c false (pN sBKey)), A (Name.c false (pN sKeyA)), I 5000] (DB xb ob))    (h1 : (oa = false ∧ c1 = c0 ∧ C1 = []) ∨ (oa = true ∧ ∃ b, FO 47 [O (.own c0), I 8] [O (.own c1), I 8] (B b) ∧ C1 = if b = true then [] else [xa]))    (h2 : (ob = false ∧ c2 = c1 ∧ C2 = C1) ∨ (ob = true ∧ ∃ b, FO 47 [O (.own c1), I 8] [O (.own c2), I 8] (B b) ∧ C2 = if b = true then C1 else C1 ++ [xb])) : FO 23 [O (.own c0)] [O (.own c2)] (A (Tru.c false ⟨K4, [R1, R2], [pN sKeyA], C2⟩)) := by
  refine fok envOk mixed is23 ⟨rfl, rfl, ?_⟩
  have hA := s_l4Of sKeyA (by decide)
  have hB := s_l4Of sAKey (by decide)
  have hC1 := s_l4Of sBKey (by decide)
  have hD := s_l4Of sBad (by decide)
  have hK : [[cSs false (pN sKeyA).parts, cI 100], [cSs false (pN sAKey).parts, cI 101], [cSs false (pN sBKey).parts, cI 102], [cSs false (pN sBad).parts, cI 103]] = K4.map (Keyy.c false) := rfl
  (repeat' ((conv => whnf); first | refine stp ?_ | refine Cl.mk (hA) ?_ | refine Cl.mk (hB) ?_ | refine Cl.mk (hC1) ?_ | refine Cl.mk (hD) ?_ | refine Nm.mk (m := 2) rfl ?_ | refine Cl.pre (by simp only [shcLL_ints, shcLL_byts, shcLL_strs, Data.shcs, Fetc.shcs, Gran.shcs, Keyy.shcs, Mani.shcs, Name.shcs, Read.shcs, Rout.shcs, Rul.shcs, Segm.shcs, TEnt.shcs, Tru.shcs]; rfl) ?_))
  rw [hK]
  generalize K4 = K at ka kb ⊢
  refine Lp.mk [.sl 0, .ex 0, .bx 2, .sl 2, .bx 3, .sl 3, .sl 24, .sl 25, .sl 26] (fun m σ => ∃ (i : Nat), i + m = 2 ∧ σ = [Rf 0 0, Ex 0 (O (.own c0)), Bx 2 ([.sl true .isnil 0 [], .sl true .isnil 0 [], .sl true .isnil 0 [], .sl true .isnil 0 []]), Pt 2, Bx 3 ([.sl true .non 2 (K.map (Keyy.c false)), .sl true .unk 2 (([R1, R2].take i).map (Rul.c false)), .sl true .non 1 ([pN sKeyA].map (Name.c false)), .sl true .isnil 0 []]), Pt 3, Sa 24 (O (.sl true .non 1 (strs [sR1, sR2]))), Sa 25 (I 2), Sa 26 (I i)]) (2) _ (.cons (.refl _) (.cons (.refl _) (.cons (.refl _) (.cons (.refl _) (.cons (.keep (.nils (.keep (.keep .nil)))) (.cons (.refl _) (.cons (.refl _) (.cons (.refl _) (.cons (.refl _) .nil))))))))) ⟨0, rfl, (by first | rfl | (simp only [zlen, zsum, Nat.zero_mul, Int.add_zero, Int.sub_zero, List.nil_append, markG]; rfl))⟩ ?_
  rintro m τ ⟨i, hi, rfl⟩
  have hi3 : i = 0 ∨ i = 1 ∨ i = 2 := by omega
  rcases hi3 with rfl | rfl | rfl
  · (repeat' ((conv => whnf); first | refine stp ?_ | refine El.mk (m := [cS sR1]) rfl ?_ | refine Cl.mk (kr1) ?_ | refine Rq.mk (by simp) ?_ | refine Cl.pre (by simp only [shcLL_ints, shcLL_byts, shcLL_strs, Data.shcs, Fetc.shcs, Gran.shcs, Keyy.shcs, Mani.shcs, Name.shcs, Read.shcs, Rout.shcs, Rul.shcs, Segm.shcs, TEnt.shcs, Tru.shcs]; rfl) ?_))
    refine Nx.intro 1 (by omega) _ (WkS.weak _ _) ⟨1, by omega, ?_⟩
    (repeat' (first | exact rfl | refine consE ?_ ?_ | refine entE ?_ | refine vI ?_ | refine vS ?_ | refine vT ?_ | refine vB ?_))
  · (repeat' ((conv => whnf); first | refine stp ?_ | refine El.mk (m := [cS sR2]) rfl ?_ | refine Cl.mk (kr2) ?_ | refine Rq.mk (by simp) ?_ | refine Cl.pre (by simp only [shcLL_ints, shcLL_byts, shcLL_strs, Data.shcs, Fetc.shcs, Gran.shcs, Keyy.shcs, Mani.shcs, Name.shcs, Read.shcs, Rout.shcs, Rul.shcs, Segm.shcs, TEnt.shcs, Tru.shcs]; rfl) ?_))
    refine Nx.intro 0 (by omega) _ (WkS.weak _ _) ⟨2, by omega, ?_⟩
    (repeat' (first | exact rfl | refine consE ?_ ?_ | refine entE ?_ | refine vI ?_ | refine vS ?_ | refine vT ?_ | refine vB ?_))
  · (repeat' ((conv => whnf); first | refine stp ?_ | refine Nm.mk (m := 2) rfl ?_ | refine Cl.pre (by simp only [shcLL_ints, shcLL_byts, shcLL_strs, Data.shcs, Fetc.shcs, Gran.shcs, Keyy.shcs, Mani.shcs, Name.shcs, Read.shcs, Rout.shcs, Rul.shcs, Segm.shcs, TEnt.shcs, Tru.shcs]; rfl) ?_))
    refine Lp.mk [.sl 0, .ex 0, .bx 2, .sl 2, .bx 3, .sl 3, .sl 42, .sl 43, .sl 44] (fun m σ => ∃ (i : Nat), i + m = 2 ∧ σ = [Rf 0 0, Ex 0 (O (.own (if i = 0 then c0 else if i = 1 then c1 else c2))), Bx 2 ([.sl true .isnil 0 [], .sl true .isnil 0 [], .sl true .isnil 0 [], .sl true .isnil 0 []]), Pt 2, Bx 3 ([.sl true .non 2 (K.map (Keyy.c false)), .sl true .unk 2 ([R1, R2].map (Rul.c false)), .sl true .non 1 ([pN sKeyA].map (Name.c false)), .sl true .unk 5 ((if i = 0 then [] else if i = 1 then C1 else C2).map (Data.c true))]), Pt 3, Sa 42 (O (.sl true .non 1 (strs [sAKey, sBKey]))), Sa 43 (I 2), Sa 44 (I i)]) (2) _ (.cons (.refl _) (.cons (.refl _) (.cons (.refl _) (.cons (.refl _) (.cons (.keep (.keep (.keep (.nils .nil)))) (.cons (.refl _) (.cons (.refl _) (.cons (.refl _) (.cons (.refl _) .nil))))))))) ⟨0, rfl, (by first | rfl | (simp only [zlen, zsum, Nat.zero_mul, Int.add_zero, Int.sub_zero, List.nil_append, markG]; rfl))⟩ ?_
    rintro m τ ⟨i, hi, rfl⟩
    have hi3 : i = 0 ∨ i = 1 ∨ i = 2 := by omega
    rcases hi3 with rfl | rfl | rfl
    · rcases h1 with ⟨rfl, rfl, rfl⟩ | ⟨rfl, b, k1, rfl⟩
      · (repeat' ((conv => whnf); first | refine stp ?_ | refine El.mk (m := [cS sAKey]) rfl ?_ | refine Cl.mk (hA) ?_ | refine Cl.mk (hB) ?_ | refine Cl.mk (ka) ?_ | refine Cl.pre (by simp only [shcLL_K]; rfl) ?_ | refine Rq.mk (dOwn_DB _ _) ?_ | refine Cl.pre (by simp only [shcLL_ints, shcLL_byts, shcLL_strs, Data.shcs, Fetc.shcs, Gran.shcs, Keyy.shcs, Mani.shcs, Name.shcs, Read.shcs, Rout.shcs, Rul.shcs, Segm.shcs, TEnt.shcs, Tru.shcs]; rfl) ?_))
        refine Nx.intro 1 (by omega) _ (WkS.weak _ _) ⟨1, by omega, ?_⟩
        (repeat' (first | exact rfl | refine consE ?_ ?_ | refine entE ?_ | refine vI ?_ | refine vS ?_ | refine vT ?_ | refine vB ?_))
      · cases b with
        | true =>
          (repeat' ((conv => whnf); first | refine stp ?_ | refine El.mk (m := [cS sAKey]) rfl ?_ | refine Cl.mk (hA) ?_ | refine Cl.mk (hB) ?_ | refine Cl.mk (ka) ?_ | refine Cl.pre (by simp only [shcLL_K]; rfl) ?_ | refine Rq.mk (dOwn_DB _ _) ?_ | refine Cl.mk (k1) ?_ | refine Cl.pre (by simp only [shcLL_ints, shcLL_byts, shcLL_strs, Data.shcs, Fetc.shcs, Gran.shcs, Keyy.shcs, Mani.shcs, Name.shcs, Read.shcs, Rout.shcs, Rul.shcs, Segm.shcs, TEnt.shcs, Tru.shcs]; rfl) ?_))
          refine Nx.intro 1 (by omega) _ (WkS.weak _ _) ⟨1, by omega, ?_⟩
          (repeat' (first | exact rfl | refine consE ?_ ?_ | refine entE ?_ | refine vI ?_ | refine vS ?_ | refine vT ?_ | refine vB ?_))
        | false =>
          (repeat' ((conv => whnf); first | refine stp ?_ | refine El.mk (m := [cS sAKey]) rfl ?_ | refine Cl.mk (hA) ?_ | refine Cl.mk (hB) ?_ | refine Cl.mk (ka) ?_ | refine Cl.pre (by simp only [shcLL_K]; rfl) ?_ | refine Rq.mk (dOwn_DB _ _) ?_ | refine Cl.mk (k1) ?_ | refine Rq.mk (by simp) ?_ | refine Cl.pre (by simp only [shcLL_ints, shcLL_byts, shcLL_strs, Data.shcs, Fetc.shcs, Gran.shcs, Keyy.shcs, Mani.shcs, Name.shcs, Read.shcs, Rout.shcs, Rul.shcs, Segm.shcs, TEnt.shcs, Tru.shcs]; rfl) ?_))
          refine Nx.intro 1 (by omega) _ (WkS.weak _ _) ⟨1, by omega, ?_⟩
          (repeat' (first | exact rfl | refine consE ?_ ?_ | refine entE ?_ | refine vI ?_ | refine vS ?_ | refine vT ?_ | refine vB ?_))
    · rcases h2 with ⟨rfl, rfl, rfl⟩ | ⟨rfl, b, k1, rfl⟩
      · (repeat' ((conv => whnf); first | refine stp ?_ | refine El.mk (m := [cS sBKey]) rfl ?_ | refine Cl.mk (hA) ?_ | refine Cl.mk (hC1) ?_ | refine Cl.mk (kb) ?_ | refine Cl.pre (by simp only [shcLL_K]; rfl) ?_ | refine Rq.mk (dOwn_DB _ _) ?_ | refine Cl.pre (by simp only [shcLL_ints, shcLL_byts, shcLL_strs, Data.shcs, Fetc.shcs, Gran.shcs, Keyy.shcs, Mani.shcs, Name.shcs, Read.shcs, Rout.shcs, Rul.shcs, Segm.shcs, TEnt.shcs, Tru.shcs]; rfl) ?_))
        refine Nx.intro 0 (by omega) _ (WkS.weak _ _) ⟨2, by omega, ?_⟩
        (repeat' (first | exact rfl | refine consE ?_ ?_ | refine entE ?_ | refine vI ?_ | refine vS ?_ | refine vT ?_ | refine vB ?_))
      · cases b with
        | true =>
          (repeat' ((conv => whnf); first | refine stp ?_ | refine El.mk (m := [cS sBKey]) rfl ?_ | refine Cl.mk (hA) ?_ | refine Cl.mk (hC1) ?_ | refine Cl.mk (kb) ?_ | refine Cl.pre (by simp only [shcLL_K]; rfl) ?_ | refine Rq.mk (dOwn_DB _ _) ?_ | refine Cl.mk (k1) ?_ | refine Cl.pre (by simp only [shcLL_ints, shcLL_byts, shcLL_strs, Data.shcs, Fetc.shcs, Gran.shcs, Keyy.shcs, Mani.shcs, Name.shcs, Read.shcs, Rout.shcs, Rul.shcs, Segm.shcs, TEnt.shcs, Tru.shcs]; rfl) ?_))
          refine Nx.intro 0 (by omega) _ (WkS.weak _ _) ⟨2, by omega, ?_⟩
          (repeat' (first | exact rfl | refine consE ?_ ?_ | refine entE ?_ | refine vI ?_ | refine vS ?_ | refine vT ?_ | refine vB ?_))
        | false =>
          (repeat' ((conv => whnf); first | refine stp ?_ | refine El.mk (m := [cS sBKey]) rfl ?_ | refine Cl.mk (hA) ?_ | refine Cl.mk (hC1) ?_ | refine Cl.mk (kb) ?_ | refine Cl.pre (by simp only [shcLL_K]; rfl) ?_ | refine Rq.mk (dOwn_DB _ _) ?_ | refine Cl.mk (k1) ?_ | refine Rq.mk (by simp; omega) ?_ | refine Cl.pre (by simp only [shcLL_ints, shcLL_byts, shcLL_strs, Data.shcs, Fetc.shcs, Gran.shcs, Keyy.shcs, Mani.shcs, Name.shcs, Read.shcs, Rout.shcs, Rul.shcs, Segm.shcs, TEnt.shcs, Tru.shcs]; rfl) ?_))
          refine Nx.intro 0 (by omega) _ (WkS.weak _ _) ⟨2, by omega, ?_⟩
          (repeat' (first | exact rfl | refine consE ?_ ?_ | refine entE ?_ | refine vI ?_ | refine vS ?_ | refine vT ?_ | refine vB ?_))
          all_goals simp [Data.c]
    · (repeat' ((conv => whnf); first | refine stp ?_ ))
      exact Vs.Fin.mk (tru_sh _ _ _ _) (.refl _)
end Go.Proofs.YtoekfmkbkffciaaGreatDoor
