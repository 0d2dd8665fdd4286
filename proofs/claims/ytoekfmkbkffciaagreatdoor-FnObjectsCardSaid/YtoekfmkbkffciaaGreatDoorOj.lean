/- Contracts of functions of the program: no statement of the seat is proved here. Each under the conditions that stand in it. -/
import Derived.Test.YtoekfmkbkffciaaGreatDoorOi
import Derived.Test.YtoekfmkbkffciaaGreatDoorNd
set_option linter.all false
namespace Go.Proofs.YtoekfmkbkffciaaGreatDoor
open Go.Vs Go.Proofs
/-! Trust -/
theorem cons_neb {α : Type} {d r s : List α} {x y : α} (h : x ≠ y) : d ++ x :: r ≠ d ++ y :: s := by
  intro h2; simp at h2; exact h h2.1
theorem is96 : FI 96 Tryz.f96 := ⟨⟨Tryz.f96, Tryz.func96, rfl, rfl, rfl, rfl⟩, rfl⟩
set_option maxRecDepth 20000 in
set_option maxHeartbeats 16000000 in
theorem Equal_byte (a b : List UInt8) (ha : a.length ≤ 1099511627776) (hb : b.length ≤ 1099511627776) : FO 96 [Ys false a, Ys false b] [Ys false a, Ys false b] (B (decide (a = b))) := by
  refine fok envOk mixed is96 ⟨rfl, rfl, ?_⟩
  refine Nm.mk lenC ?_
  refine Nm.mk lenC ?_
  (conv => whnf)
  refine Br.mk (fun h => ?_) (fun h => ?_)
  · have hne : a ≠ b := by rintro rfl; simp at h
    (repeat' ((conv => whnf); first | refine stp ?_ ))
    refine Vs.Fin.mk (WkR.eq ?_) (.refl _)
    rw [decide_eq_false hne]
  have hl : a.length = b.length := by simp at h; omega
  refine Nm.mk lenC ?_
  refine Lp.mk [.sl 0, .sl 1, .sl 12, .sl 13] (fun m σ => ∃ d r e s, a = d ++ r ∧ b = e ++ s ∧ m = r.length ∧ d = e ∧ σ = [Sa 0 (Ys false a), Sa 1 (Ys false b), Sa 12 (I a.length), Sa 13 (I d.length)]) (a.length) _ (WkS.weak _ _) ⟨[], a, [], b, rfl, rfl, rfl, rfl, (by first | rfl | (simp only [zlen, zsum, Nat.zero_mul, Int.add_zero, Int.sub_zero, List.nil_append, markG]; rfl))⟩ ?_
  rintro m τ ⟨d, r, e, s, h1, h2, rfl, rfl, rfl⟩
  have hy : a.length = d.length + r.length := by rw [h1]; simp
  have hy2 : b.length = d.length + s.length := by rw [h2]; simp
  cases r with
  | nil =>
    obtain rfl : s = [] := by
      cases s with
      | nil => rfl
      | cons y s => simp at hy hy2; omega
    refine Br.neg (by simp at * <;> omega) ?_
    (repeat' ((conv => whnf); first | refine stp ?_ ))
    refine Vs.Fin.mk (WkR.eq ?_) (.refl _)
    rw [decide_eq_true (h1.trans h2.symm)]
  | cons x r =>
    obtain ⟨y, s, rfl⟩ : ∃ y s', s = y :: s' := by
      cases s with
      | nil => simp at hy hy2; omega
      | cons y s' => exact ⟨y, s', rfl⟩
    simp at hy hy2
    refine Br.pos (by simp <;> omega) ?_
    by_cases hxy : x = y
    · subst hxy
      (repeat' ((conv => whnf); first | refine stp ?_ | refine El.mk (getH h1 rfl) ?_ | refine El.mk (getH h2 rfl) ?_ | refine Cl.pre (by simp only [shcLL_ints, shcLL_byts, shcLL_strs, Bnd.shcs, Data.shcs, Fetc.shcs, Gran.shcs, Keyy.shcs, Mani.shcs, Name.shcs, Read.shcs, Rout.shcs, Rul.shcs, Segm.shcs, TEnt.shcs, Tru.shcs]; rfl) ?_))
      refine Nx.intro r.length (by simp) _ (WkS.weak _ _) ⟨d ++ [x], r, d ++ [x], s, by simp [h1], by simp [h2], rfl, rfl, ?_⟩
      rw [len1]; rfl
    · have hne : a ≠ b := by rw [h1, h2]; exact cons_neb hxy
      have f1 : (!(((x.toNat : Nat) : Int) == ((y.toNat : Nat) : Int))) = true := by rw [u8eq, decide_eq_false hxy]; rfl
      (repeat' ((conv => whnf); first | refine stp ?_ | refine El.mk (getH h1 rfl) ?_ | refine El.mk (getH h2 rfl) ?_ | refine Cl.pre (by simp only [shcLL_ints, shcLL_byts, shcLL_strs, Bnd.shcs, Data.shcs, Fetc.shcs, Gran.shcs, Keyy.shcs, Mani.shcs, Name.shcs, Read.shcs, Rout.shcs, Rul.shcs, Segm.shcs, TEnt.shcs, Tru.shcs]; rfl) ?_))
      refine Vs.Fin.mk (WkR.eq ?_) (.refl _)
      rw [decide_eq_false hne]
theorem is95 : FI 95 Tryz.f95 := ⟨⟨Tryz.f95, Tryz.func95, rfl, rfl, rfl, rfl⟩, rfl⟩
set_option maxRecDepth 20000 in
set_option maxHeartbeats 16000000 in
theorem i_FreshAt (x : Data) (now : Int) : FO 95 [A (Data.c false x), I now] [A (Data.c false x), I now] (B (decide (now ≤ x.fresh))) := by
  refine fok envOk mixed is95 ⟨rfl, rfl, ?_⟩
  (repeat' ((conv => whnf); first | refine stp ?_ ))
  exact Vs.Fin.mk (WkR.refl _) (.refl _)
theorem is97 : FI 97 Tryz.f97 := ⟨⟨Tryz.f97, Tryz.func97, rfl, rfl, rfl, rfl⟩, rfl⟩
set_option maxRecDepth 20000 in
set_option maxHeartbeats 16000000 in
theorem i_KeyDigest (l : List Keyy) (n : Name) (hl : l.length + sumN Keyy.size l ≤ 1048576) (hn : strsSize n.parts ≤ 1048576) : FO 97 [O (sl false 2 (l.map (Keyy.c false))), A (Name.c false n)] [O (sl false 2 (l.map (Keyy.c false))), A (Name.c false n)] (Ys true (kDig l n)) := by
  refine fok envOk mixed is97 ⟨rfl, rfl, ?_⟩
  have hS := i_SecretOf l n hl hn
  unfold kDig
  generalize secOf l n = x at hS
  by_cases h : x = 0
  · subst h
    rw [if_pos rfl]
    (repeat' ((conv => whnf); first | refine stp ?_ | refine Cl.mk (hS) ?_ | refine Cl.pre (by simp only [shcLL_ints, shcLL_byts, shcLL_strs, Bnd.shcs, Data.shcs, Fetc.shcs, Gran.shcs, Keyy.shcs, Mani.shcs, Name.shcs, Read.shcs, Rout.shcs, Rul.shcs, Segm.shcs, TEnt.shcs, Tru.shcs]; rfl) ?_))
    exact Vs.Fin.mk (WkR.of (.nils .nil)) (.refl _)
  · rw [if_neg h]
    have f1 : (x == 0) = false := by simp [h]
    have hD := i_Digest [x] (by simp)
    have hA := (i_AppendVarint [] (digest [x]) (by simp)).wk (args' := [O (.sl false .isnil 0 []), I (digest [x])]) (.cons (.nils .nil) (.refl _)) (.refl _) (WkR.refl _)
    (repeat' ((conv => whnf); first | refine stp ?_ | refine Cl.mk (hS) ?_ | refine Cl.mk (hD) ?_ | refine Cl.mk (hA) ?_ | refine Cl.pre (by simp only [shcLL_ints, shcLL_byts, shcLL_strs, Bnd.shcs, Data.shcs, Fetc.shcs, Gran.shcs, Keyy.shcs, Mani.shcs, Name.shcs, Read.shcs, Rout.shcs, Rul.shcs, Segm.shcs, TEnt.shcs, Tru.shcs]; rfl) ?_))
    exact Vs.Fin.mk (WkR.refl _) (.refl _)
def certOk (t : Tru) (n : Name) (now : Int) (x : Data) : Bool := decide (x.name = n) && (decide (now ≤ x.fresh) && (verS t.keys x && decide (x.content = kDig t.keys n)))
def anch (t : Tru) (n : Name) : Bool := t.anchors.any fun a => decide (a = n)
def findC (t : Tru) (n : Name) (now : Int) : Int := if secOf t.keys n = 0 then -1 else findI (certOk t n now) t.certs 0
structure Tru.ok (t : Tru) : Prop where
  k : t.keys.length + sumN Keyy.size t.keys ≤ 1048576
  r : t.rules.length ≤ 1000
  rz : ∀ r ∈ t.rules, strsSize r.dat ≤ 1048576 ∧ strsSize r.key ≤ 1048576
  a : t.anchors.length ≤ 1000
  az : ∀ a ∈ t.anchors, strsSize a.parts ≤ 1048576
  c : t.certs.length ≤ 1000
  cz : ∀ y ∈ t.certs, y.sz
theorem is92 : FI 92 Tryz.f92 := ⟨⟨Tryz.f92, Tryz.func92, rfl, rfl, rfl, rfl⟩, rfl⟩
set_option maxRecDepth 20000 in
set_option maxHeartbeats 16000000 in
theorem i_IsAnchor_1 (a n : Name) (ha : a.parts.length ≤ 1099511627776) : FO 92 [A (Name.c false a), O (.cp (Name.c false n) 0)] [A (Name.c false a), O (.cp (Name.c false n) 0)] (B (decide (a = n))) := by
  refine fok envOk mixed is92 ⟨rfl, rfl, ?_⟩
  (repeat' ((conv => whnf); first | refine stp ?_ | refine Cl.mk (i_EqualNames a n ha) ?_ | refine Cl.pre (by simp only [shcLL_ints, shcLL_byts, shcLL_strs, Bnd.shcs, Data.shcs, Fetc.shcs, Gran.shcs, Keyy.shcs, Mani.shcs, Name.shcs, Read.shcs, Rout.shcs, Rul.shcs, Segm.shcs, TEnt.shcs, Tru.shcs]; rfl) ?_))
  exact Vs.Fin.mk (WkR.refl _) (.refl _)
theorem is61 : FI 61 Tryz.f61 := ⟨⟨Tryz.f61, Tryz.func61, rfl, rfl, rfl, rfl⟩, rfl⟩
set_option maxRecDepth 20000 in
set_option maxHeartbeats 16000000 in
theorem i_IsAnchor (t : Tru) (n : Name) (ht : t.ok) : FO 61 [A (Tru.c false t), A (Name.c false n)] [A (Tru.c false t), A (Name.c false n)] (B (anch t n)) := by
  refine fok envOk mixed is61 ⟨rfl, rfl, ?_⟩
  (repeat' ((conv => whnf); first | refine stp ?_ | refine Cl.mk (ContainsFunc_Name1 (l := t.anchors) (by have := ht.a; omega) (p := fun a => decide (a = n)) (fun a ha => i_IsAnchor_1 a n (by have := strs_len (ht.az a ha); omega))) ?_ | refine Rq.mk (by simp [dOwnL, dOwn]) ?_ | refine Cl.pre (by simp only [shcLL_ints, shcLL_byts, shcLL_strs, Bnd.shcs, Data.shcs, Fetc.shcs, Gran.shcs, Keyy.shcs, Mani.shcs, Name.shcs, Read.shcs, Rout.shcs, Rul.shcs, Segm.shcs, TEnt.shcs, Tru.shcs]; rfl) ?_))
  exact Vs.Fin.mk (WkR.refl _) (.refl _)
theorem is94 : FI 94 Tryz.f94 := ⟨⟨Tryz.f94, Tryz.func94, rfl, rfl, rfl, rfl⟩, rfl⟩
set_option maxRecDepth 20000 in
set_option maxHeartbeats 16000000 in
theorem i_FindC_1 (x : Data) (t : Tru) (n : Name) (now : Int) (ht : t.ok) (hx : x.sz) (hn : strsSize n.parts ≤ 1048576) : FO 94 [A (Data.c false x), O (.cp (Name.c false n) 0), O (.cp [cI now] 0), O (.cp (Tru.c false t) 0)] [A (Data.c false x), O (.cp (Name.c false n) 0), O (.cp [cI now] 0), O (.cp (Tru.c false t) 0)] (B (certOk t n now x)) := by
  refine fok envOk mixed is94 ⟨rfl, rfl, ?_⟩
  have hE := i_EqualNames x.name n (by have := strs_len hx.1; omega)
  have hF := i_FreshAt x now
  have hV : FO 58 [Ks false t.keys, A (Data.c false x)] [Ks false t.keys, A (Data.c false x)] (B (verS t.keys x)) := i_VerifySignature t.keys x ht.k hx
  have hK := sh_Yo (i_KeyDigest t.keys n ht.k hn)
  have hl := kDig_len t.keys n
  unfold certOk
  generalize kDig t.keys n = c at hK hl
  have hQ := Equal_byte x.content c (by have := hx.2.1; omega) (by omega)
  generalize verS t.keys x = v at hV
  generalize decide (x.content = c) = q at hQ
  generalize decide (x.name = n) = e at hE
  cases e with
  | false =>
    (repeat' ((conv => whnf); first | refine stp ?_ | refine Cl.mk (hE) ?_ | refine Cl.pre (by simp only [shcLL_ints, shcLL_byts, shcLL_strs, Bnd.shcs, Data.shcs, Fetc.shcs, Gran.shcs, Keyy.shcs, Mani.shcs, Name.shcs, Read.shcs, Rout.shcs, Rul.shcs, Segm.shcs, TEnt.shcs, Tru.shcs]; rfl) ?_))
    exact Vs.Fin.mk (WkR.refl _) (.refl _)
  | true =>
    cases hf : decide (now ≤ x.fresh) with
    | false =>
      rw [hf] at hF
      (repeat' ((conv => whnf); first | refine stp ?_ | refine Cl.mk (hE) ?_ | refine Cl.mk (hF) ?_ | refine Cl.pre (by simp only [shcLL_ints, shcLL_byts, shcLL_strs, Bnd.shcs, Data.shcs, Fetc.shcs, Gran.shcs, Keyy.shcs, Mani.shcs, Name.shcs, Read.shcs, Rout.shcs, Rul.shcs, Segm.shcs, TEnt.shcs, Tru.shcs]; rfl) ?_))
      exact Vs.Fin.mk (WkR.refl _) (.refl _)
    | true =>
      rw [hf] at hF
      cases v with
      | false =>
        (repeat' ((conv => whnf); first | refine stp ?_ | refine Cl.mk (hE) ?_ | refine Cl.mk (hF) ?_ | refine Cl.mk (hV) ?_ | refine Cl.pre (by simp only [shcLL_ints, shcLL_byts, shcLL_strs, Bnd.shcs, Data.shcs, Fetc.shcs, Gran.shcs, Keyy.shcs, Mani.shcs, Name.shcs, Read.shcs, Rout.shcs, Rul.shcs, Segm.shcs, TEnt.shcs, Tru.shcs]; rfl) ?_))
        exact Vs.Fin.mk (WkR.refl _) (.refl _)
      | true =>
        (repeat' ((conv => whnf); first | refine stp ?_ | refine Cl.mk (hE) ?_ | refine Cl.mk (hF) ?_ | refine Cl.mk (hV) ?_ | refine Cl.mk (hK) ?_ | refine Cl.mk (hQ) ?_ | refine Cl.pre (by simp only [shcLL_ints, shcLL_byts, shcLL_strs, Bnd.shcs, Data.shcs, Fetc.shcs, Gran.shcs, Keyy.shcs, Mani.shcs, Name.shcs, Read.shcs, Rout.shcs, Rul.shcs, Segm.shcs, TEnt.shcs, Tru.shcs]; rfl) ?_))
        exact Vs.Fin.mk (WkR.refl _) (.refl _)
theorem is62 : FI 62 Tryz.f62 := ⟨⟨Tryz.f62, Tryz.func62, rfl, rfl, rfl, rfl⟩, rfl⟩
set_option maxRecDepth 20000 in
set_option maxHeartbeats 16000000 in
theorem i_FindC (t : Tru) (n : Name) (now : Int) (ht : t.ok) (hn : strsSize n.parts ≤ 1048576) : FO 62 [A (Tru.c false t), A (Name.c false n), I now] [A (Tru.c false t), A (Name.c false n), I now] (I (findC t n now)) := by
  refine fok envOk mixed is62 ⟨rfl, rfl, ?_⟩
  have hS := i_SecretOf t.keys n ht.k hn
  have hI := IndexFunc_Data3 (l := t.certs) (by have := ht.c; omega) (p := certOk t n now) (fun x hx => i_FindC_1 x t n now ht (ht.cz x hx) hn)
  unfold findC
  generalize secOf t.keys n = s at hS
  by_cases h : s = 0
  · subst h
    rw [if_pos rfl]
    (repeat' ((conv => whnf); first | refine stp ?_ | refine Cl.mk (hS) ?_ | refine Cl.pre (by simp only [shcLL_ints, shcLL_byts, shcLL_strs, Bnd.shcs, Data.shcs, Fetc.shcs, Gran.shcs, Keyy.shcs, Mani.shcs, Name.shcs, Read.shcs, Rout.shcs, Rul.shcs, Segm.shcs, TEnt.shcs, Tru.shcs]; rfl) ?_))
    exact Vs.Fin.mk (WkR.refl _) (.refl _)
  · have f1 : (s == 0) = false := by simp [h]
    rw [if_neg h]
    (repeat' ((conv => whnf); first | refine stp ?_ | refine Cl.mk (hS) ?_ | refine Cl.mk (hI) ?_ | refine Rq.mk (by simp [dOwnL, dOwn]) ?_ | refine Cl.pre (by simp only [shcLL_ints, shcLL_byts, shcLL_strs, Bnd.shcs, Data.shcs, Fetc.shcs, Gran.shcs, Keyy.shcs, Mani.shcs, Name.shcs, Read.shcs, Rout.shcs, Rul.shcs, Segm.shcs, TEnt.shcs, Tru.shcs]; rfl) ?_))
    exact Vs.Fin.mk (WkR.refl _) (.refl _)
end Go.Proofs.YtoekfmkbkffciaaGreatDoor
