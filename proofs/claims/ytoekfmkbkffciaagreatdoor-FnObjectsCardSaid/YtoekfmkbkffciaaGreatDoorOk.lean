/- Contracts of functions of the program: no statement of the seat is proved here. Each under the conditions that stand in it. -/
import Derived.Test.YtoekfmkbkffciaaGreatDoorOj
set_option linter.all false
namespace Go.Proofs.YtoekfmkbkffciaaGreatDoor
open Go.Vs Go.Proofs
def okD (t : Tru) (x : Data) : Bool := verS t.keys x && t.rules.any fun r => rulOk r x.name x.keyName
def certAt (t : Tru) (n : Name) (now : Int) : Option Data := if secOf t.keys n = 0 then none else t.certs.find? (certOk t n now)
def tcN (t : Tru) (now : Int) : Nat → Data → List Name → List Name × Bool
  | 0, _, _ => ([], false)
  | k + 1, x, c => if okD t x = true then (if anch t x.keyName = true then (c ++ [x.keyName], true) else match certAt t x.keyName now with
      | none => ([], false)
      | some y => tcN t now k y (c ++ [x.keyName])) else ([], false)
def trusted (t : Tru) (x : Data) (now : Int) : Bool := (tcN t now 4 x []).2 && vData x
theorem tcN_no {t : Tru} {now : Int} {x : Data} (k : Nat) (c : List Name) (h : okD t x = false) : tcN t now k x c = ([], false) := by
  cases k with
  | zero => rfl
  | succ k => rw [tcN, if_neg (by rw [h]; simp)]
theorem tcN_an {t : Tru} {now : Int} {x : Data} (k : Nat) (c : List Name) (h : okD t x = true) (h2 : anch t x.keyName = true) : tcN t now (k + 1) x c = (c ++ [x.keyName], true) := by
  rw [tcN, if_pos h, if_pos h2]
theorem tcN_nc {t : Tru} {now : Int} {x : Data} (k : Nat) (c : List Name) (h : okD t x = true) (h2 : anch t x.keyName = false) (h3 : certAt t x.keyName now = none) : tcN t now (k + 1) x c = ([], false) := by
  rw [tcN, if_pos h, if_neg (by rw [h2]; simp), h3]
theorem tcN_ct {t : Tru} {now : Int} {x y : Data} (k : Nat) (c : List Name) (h : okD t x = true) (h2 : anch t x.keyName = false) (h3 : certAt t x.keyName now = some y) : tcN t now (k + 1) x c = tcN t now k y (c ++ [x.keyName]) := by
  rw [tcN, if_pos h, if_neg (by rw [h2]; simp), h3]
theorem findC_at (t : Tru) (n : Name) (now : Int) : (findC t n now = -1 ∧ certAt t n now = none) ∨ ∃ d y r, t.certs = d ++ y :: r ∧ findC t n now = (d.length : Int) ∧ certAt t n now = some y := by
  unfold findC certAt
  by_cases h : secOf t.keys n = 0
  · rw [if_pos h, if_pos h]; exact .inl ⟨rfl, rfl⟩
  · rw [if_neg h, if_neg h]
    rcases find_splitN (p := certOk t n now) t.certs with ⟨q1, q2⟩ | ⟨d, y, r, e, q2, q3, q4⟩
    · exact .inl ⟨findI_none q1 0, q2⟩
    · refine .inr ⟨d, y, r, e, ?_, q4⟩
      rw [e, findI_at q2 q3 0]; simp
abbrev LNb (r : List Name × Bool) : Arg := (.tup [(false, 1), (false, 1)], [sl true 1 (r.1.map (Name.c true)), cB r.2])
theorem nil_LNb : WkR (.tup [(false, 1), (false, 1)], [AV.sl true .isnil 0 [], cB false]) (LNb ([], false)) := WkR.of (.nils (.refl _))
theorem is31 : FI 31 Tryz.f31 := ⟨⟨Tryz.f31, Tryz.func31, rfl, rfl, rfl, rfl⟩, rfl⟩
set_option maxRecDepth 20000 in
set_option maxHeartbeats 16000000 in
theorem i_TrustChain (t : Tru) (x : Data) (now : Int) (ht : t.ok) (hx : x.sz) : FO 31 [A (Tru.c false t), A (Data.c false x), I now] [A (Tru.c false t), A (Data.c false x), I now] (LNb (tcN t now 4 x [])) := by
  refine fok envOk mixed is31 ⟨rfl, rfl, ?_⟩
  (repeat' ((conv => whnf); first | refine stp ?_ ))
  refine Lp.mk [.sl 2, .bx 3, .sl 3, .bx 4, .sl 4, .sl 8] (fun m σ => ∃ c y, tcN t now 4 x [] = tcN t now m y c ∧ c.length + m = 4 ∧ y.sz ∧ σ = [Sa 2 (I now), Bx 3 ((Tru.c false t)), Pt 3, Bx 4 (Data.c false y), Pt 4, Sa 8 (O (.sl true .unk 1 (c.map (Name.c true))))]) (4) _ (.cons (.refl _) (.cons (.refl _) (.cons (.refl _) (.cons (.refl _) (.cons (.refl _) (.cons (.top .nil) .nil)))))) ⟨[], x, rfl, rfl, hx, (by first | rfl | (simp only [zlen, zsum, Nat.zero_mul, Int.add_zero, Int.sub_zero, List.nil_append, markG]; rfl))⟩ ?_
  rintro m τ ⟨c, y, hm, hc, hy, rfl⟩
  rw [hm]
  clear hm
  have h1 := strs_len hy.1
  have h3 := strs_len hy.2.2
  have hV : FO 58 [Ks false t.keys, A (Data.c false y)] [Ks false t.keys, A (Data.c false y)] (B (verS t.keys y)) := i_VerifySignature t.keys y ht.k hy
  have hA := i_Allowed t.rules y.name y.keyName ht.r ht.rz hy.1 hy.2.2
  have hO : okD t y = (verS t.keys y && t.rules.any fun r => rulOk r y.name y.keyName) := rfl
  generalize verS t.keys y = v at hV hO
  generalize (t.rules.any fun r => rulOk r y.name y.keyName) = w at hA hO
  cases v with
  | false =>
    rw [tcN_no m c (by rw [hO]; rfl)]
    (repeat' ((conv => whnf); first | refine stp ?_ | refine Cl.mk (hV) ?_ | refine Cl.pre (by simp only [shcLL_ints, shcLL_byts, shcLL_strs, Bnd.shcs, Data.shcs, Fetc.shcs, Gran.shcs, Keyy.shcs, Mani.shcs, Name.shcs, Read.shcs, Rout.shcs, Rul.shcs, Segm.shcs, TEnt.shcs, Tru.shcs]; rfl) ?_))
    exact Vs.Fin.mk nil_LNb (.refl _)
  | true =>
  cases w with
  | false =>
    rw [tcN_no m c (by rw [hO]; rfl)]
    (repeat' ((conv => whnf); first | refine stp ?_ | refine Cl.mk (hV) ?_ | refine Cl.mk (hA) ?_ | refine Cl.pre (by simp only [shcLL_ints, shcLL_byts, shcLL_strs, Bnd.shcs, Data.shcs, Fetc.shcs, Gran.shcs, Keyy.shcs, Mani.shcs, Name.shcs, Read.shcs, Rout.shcs, Rul.shcs, Segm.shcs, TEnt.shcs, Tru.shcs]; rfl) ?_))
    exact Vs.Fin.mk nil_LNb (.refl _)
  | true =>
  have hO2 : okD t y = true := by rw [hO]; rfl
  cases m with
  | zero =>
    have f1 : ((c.length : Int) == 4) = true := by simp; omega
    (repeat' ((conv => whnf); first | refine stp ?_ | refine Cl.mk (hV) ?_ | refine Cl.mk (hA) ?_ | refine Cl.pre (by simp only [shcLL_ints, shcLL_byts, shcLL_strs, Bnd.shcs, Data.shcs, Fetc.shcs, Gran.shcs, Keyy.shcs, Mani.shcs, Name.shcs, Read.shcs, Rout.shcs, Rul.shcs, Segm.shcs, TEnt.shcs, Tru.shcs]; rfl) ?_))
    exact Vs.Fin.mk nil_LNb (.refl _)
  | succ m =>
    have f1 : ((c.length : Int) == 4) = false := by simp; omega
    have hN := i_copyName y.keyName (by omega)
    have hI := i_IsAnchor t y.keyName ht
    cases ha : anch t y.keyName with
    | true =>
      rw [ha] at hI
      rw [tcN_an m c hO2 ha]
      (repeat' ((conv => whnf); first | refine stp ?_ | refine Cl.mk (hV) ?_ | refine Cl.mk (hA) ?_ | refine Cl.mk (hN) ?_ | refine Rq.mk (by simp; omega) ?_ | refine Cl.mk (hI) ?_ | refine Cl.pre (by simp only [shcLL_ints, shcLL_byts, shcLL_strs, Bnd.shcs, Data.shcs, Fetc.shcs, Gran.shcs, Keyy.shcs, Mani.shcs, Name.shcs, Read.shcs, Rout.shcs, Rul.shcs, Segm.shcs, TEnt.shcs, Tru.shcs]; rfl) ?_))
      refine Vs.Fin.mk (WkR.of (.sl1 ?_ (.refl _))) (.refl _)
      simp
    | false =>
      rw [ha] at hI
      have hF := i_FindC t y.keyName now ht hy.2.2
      rcases findC_at t y.keyName now with ⟨q1, q2⟩ | ⟨d, z, r, e, q1, q2⟩
      · rw [q1] at hF
        rw [tcN_nc m c hO2 ha q2]
        (repeat' ((conv => whnf); first | refine stp ?_ | refine Cl.mk (hV) ?_ | refine Cl.mk (hA) ?_ | refine Cl.mk (hN) ?_ | refine Rq.mk (by simp; omega) ?_ | refine Cl.mk (hI) ?_ | refine Cl.mk (hF) ?_ | refine Cl.pre (by simp only [shcLL_ints, shcLL_byts, shcLL_strs, Bnd.shcs, Data.shcs, Fetc.shcs, Gran.shcs, Keyy.shcs, Mani.shcs, Name.shcs, Read.shcs, Rout.shcs, Rul.shcs, Segm.shcs, TEnt.shcs, Tru.shcs]; rfl) ?_))
        exact Vs.Fin.mk nil_LNb (.refl _)
      · rw [q1] at hF
        rw [tcN_ct m c hO2 ha q2]
        have f2 : decide ((d.length : Int) < 0) = false := by simp
        have hl : t.certs.length = d.length + (r.length + 1) := by rw [e]; simp
        (repeat' ((conv => whnf); first | refine stp ?_ | refine Cl.mk (hV) ?_ | refine Cl.mk (hA) ?_ | refine Cl.mk (hN) ?_ | refine Rq.mk (by simp; omega) ?_ | refine Cl.mk (hI) ?_ | refine Cl.mk (hF) ?_ | refine Rq.mk ⟨by omega, by rw [List.length_map]; omega⟩ ?_ | refine El.mk (getH e rfl) ?_ | refine Cl.pre (by simp only [shcLL_ints, shcLL_byts, shcLL_strs, Bnd.shcs, Data.shcs, Fetc.shcs, Gran.shcs, Keyy.shcs, Mani.shcs, Name.shcs, Read.shcs, Rout.shcs, Rul.shcs, Segm.shcs, TEnt.shcs, Tru.shcs]; rfl) ?_))
        refine Nx.intro m (by omega) _ (WkS.weak _ _) ⟨c ++ [y.keyName], z, rfl, by simp; omega, ht.cz z (by rw [e]; simp), ?_⟩
        (repeat' (first | exact rfl | refine consE ?_ ?_ | refine entE ?_ | refine vI ?_ | refine vS ?_ | refine vT ?_ | refine vB ?_))
        all_goals simp
theorem is8 : FI 8 Tryz.f8 := ⟨⟨Tryz.f8, Tryz.func8, rfl, rfl, rfl, rfl⟩, rfl⟩
set_option maxRecDepth 20000 in
set_option maxHeartbeats 16000000 in
theorem i_IsTrusted (t : Tru) (x : Data) (now : Int) (ht : t.ok) (hx : x.sz) : FO 8 [A (Tru.c false t), A (Data.c false x), I now] [A (Tru.c false t), A (Data.c false x), I now] (B (trusted t x now)) := by
  refine fok envOk mixed is8 ⟨rfl, rfl, ?_⟩
  have hT := i_TrustChain t x now ht hx
  have hV := i_ValidData x hx
  unfold trusted
  generalize tcN t now 4 x [] = w at hT
  obtain ⟨o, b⟩ := w
  generalize vData x = v at hV
  cases b with
  | false =>
    (repeat' ((conv => whnf); first | refine stp ?_ | refine Cl.mk (hT) ?_ | refine Cl.pre (by simp only [shcLL_ints, shcLL_byts, shcLL_strs, Bnd.shcs, Data.shcs, Fetc.shcs, Gran.shcs, Keyy.shcs, Mani.shcs, Name.shcs, Read.shcs, Rout.shcs, Rul.shcs, Segm.shcs, TEnt.shcs, Tru.shcs]; rfl) ?_))
    exact Vs.Fin.mk (WkR.refl _) (.refl _)
  | true =>
    (repeat' ((conv => whnf); first | refine stp ?_ | refine Cl.mk (hT) ?_ | refine Cl.mk (hV) ?_ | refine Cl.pre (by simp only [shcLL_ints, shcLL_byts, shcLL_strs, Bnd.shcs, Data.shcs, Fetc.shcs, Gran.shcs, Keyy.shcs, Mani.shcs, Name.shcs, Read.shcs, Rout.shcs, Rul.shcs, Segm.shcs, TEnt.shcs, Tru.shcs]; rfl) ?_))
    exact Vs.Fin.mk (WkR.refl _) (.refl _)
end Go.Proofs.YtoekfmkbkffciaaGreatDoor
