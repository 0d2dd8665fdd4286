/- Contracts of functions of the program: no statement of the seat is proved here. Each under the conditions that stand in it. -/
import Derived.Test.YtoekfmkbkffciaaGreatDoorFq
set_option linter.all false
namespace Go.Proofs.YtoekfmkbkffciaaGreatDoor
open Go.Vs Go.Proofs
/-! Codes of lists, plans -/
theorem rdV_le : ∀ (l : List UInt8) (k n : Nat) (x c : Nat), rdV l k n = some (x, c) → x ≤ 1000000000000 ∧ k < c ∧ c ≤ k + l.length
  | [], k, n, x, c, h => by simp [rdV] at h
  | y :: r, k, n, x, c, h => by
    rw [rdV] at h
    split at h
    · split at h
      · split at h
        · simp at h
        · simp at h; simp; omega
      · have := rdV_le r (k + 1) _ x c h
        simp; omega
    · simp at h
def decA (b : List UInt8) : Nat → Nat → List Int → Option (List Int × Nat)
  | 0, q, o => some (o, q)
  | n + 1, q, o => match rdV (b.drop q) 0 0 with
    | none => none
    | some (x, c) => decA b n (q + c) (o ++ [(x : Int)])
def decI (b : List UInt8) (q : Nat) (n : Int) : Option (List Int × Nat) := if inR n 0 100 then decA b n.toNat q [] else none
abbrev TIs (l : List Int) (e : Int) (b : Bool) : Arg := (.tup [(false, 1), (false, 1), (false, 1)], [cIs true l, cI e, cB b])
abbrev TI (o : Option (List Int × Nat)) : Arg := match o with
  | none => TIs [] 0 false
  | some (l, e) => TIs l e true
theorem decA_le {b : List UInt8} : ∀ (n q : Nat) (o : List Int) (l : List Int) (e : Nat), q ≤ b.length → decA b n q o = some (l, e) → l.length = o.length + n ∧ e ≤ b.length
  | 0, q, o, l, e, hq, h => by simp [decA] at h; simp [← h.1, ← h.2, hq]
  | n + 1, q, o, l, e, hq, h => by
    rw [decA] at h
    split at h
    · simp at h
    · rename_i x c hx
      have := rdV_le _ _ _ _ _ hx
      simp at this
      have := decA_le n (q + c) _ l e (by omega) h
      simp at this; omega
theorem decI_le {b : List UInt8} {q : Nat} {n : Int} {l : List Int} {e : Nat} (hq : q ≤ b.length) (h : decI b q n = some (l, e)) : (l.length : Int) = n ∧ e ≤ b.length ∧ 0 ≤ n ∧ n ≤ 100 := by
  unfold decI at h
  split at h
  · rename_i hn
    have := decA_le _ _ _ _ _ hq h
    simp [inR_t] at hn
    simp at this
    omega
  · simp at h
theorem is33 : FI 33 Tryz.f33 := ⟨⟨Tryz.f33, Tryz.func33, rfl, rfl, rfl, rfl⟩, rfl⟩
set_option maxRecDepth 20000 in
set_option maxHeartbeats 16000000 in
theorem i_DecodeInts (b : List UInt8) (q : Nat) (n : Int) (hb : b.length ≤ 1048576) (hq : q ≤ b.length) : FO 33 [Ys false b, I q, I n] [Ys false b, I q, I n] (TI (decI b q n)) := by
  refine fok envOk mixed is33 ⟨rfl, rfl, ?_⟩
  have hqq : inR (q : Int) 0 b.length = true := by simp [inR_t]; omega
  cases hn : inR n 0 100 with
  | false =>
    have f1 : (!inR n 0 100) = true := by simp [hn]
    have e0 : decI b q n = none := by simp [decI, hn]
    rw [e0]
    (repeat' ((conv => whnf); first | refine stp ?_ | refine Cl.mk (i_InRange _ _ _) ?_ | refine Cl.pre (by simp only [shcLL_ints, shcLL_byts, shcLL_strs, Fetc.shcs, Mani.shcs, Name.shcs, Segm.shcs]; rfl) ?_))
    (refine Vs.Fin.mk (WkR.of ?_) (.refl _); first | exact .refl _ | exact .nils (.refl _) | exact .top (.refl _))
  | true =>
    have hn2 := hn
    simp [inR_t] at hn2
    obtain ⟨N, rfl⟩ : ∃ N : Nat, n = N := ⟨n.toNat, by omega⟩
    have e0 : decI b q N = decA b N q [] := by simp [decI, hn]
    have f1 : (!inR (N : Int) 0 100) = false := by simp [hn]
    have f2 : (!inR (q : Int) 0 b.length) = false := by simp [hqq]
    rw [e0]
    (repeat' ((conv => whnf); first | refine stp ?_ | refine Cl.mk (i_InRange _ _ _) ?_ | refine Cl.pre (by simp only [shcLL_ints, shcLL_byts, shcLL_strs, Fetc.shcs, Mani.shcs, Name.shcs, Segm.shcs]; rfl) ?_))
    refine Lp.mk [.sl 0, .sl 1, .sl 9, .sl 24, .sl 25] (fun m σ => ∃ p k o, decA b N q [] = decA b m p o ∧ p ≤ b.length ∧ k + m = N ∧ o.length = k ∧ σ = [Sa 0 (Ys false b), Sa 1 (I p), Sa 9 (Is true o), Sa 24 (I N), Sa 25 (I k)]) (N) _ (.cons (.refl _) (.cons (.refl _) (.cons (.top .nil) (.cons (.refl _) (.cons (.refl _) .nil))))) ⟨q, 0, [], rfl, hq, by omega, rfl, (by first | rfl | (simp only [zlen, zsum, Nat.zero_mul, Int.add_zero, Int.sub_zero, List.nil_append, markG]; rfl))⟩ ?_
    rintro m τ ⟨p, k, o, hd, hp, hk, ho, rfl⟩
    cases m with
    | zero =>
      rw [show decA b N q [] = some (o, p) from hd]
      have f1 : decide ((k : Int) < (N : Int)) = false := by simp; omega
      (repeat' ((conv => whnf); first | refine stp ?_ ))
      (refine Vs.Fin.mk (WkR.of ?_) (.refl _); first | exact .refl _ | exact .nils (.refl _) | exact .top (.refl _))
    | succ m =>
      have f1 : decide ((k : Int) < (N : Int)) = true := by simp; omega
      rw [decA] at hd
      cases hx : rdV (b.drop p) 0 0 with
      | none =>
        rw [hx] at hd
        rw [show decA b N q [] = none from hd]
        have f2 : (!(rdV (b.drop p) 0 0).isSome) = true := by rw [hx]; rfl
        (repeat' ((conv => whnf); first | refine stp ?_ | refine Cl.mk (i_ReadVarint b p hb hp) ?_ | refine Cl.pre (by simp only [shcLL_ints, shcLL_byts, shcLL_strs, Fetc.shcs, Mani.shcs, Name.shcs, Segm.shcs]; rfl) ?_))
        (refine Vs.Fin.mk (WkR.of ?_) (.refl _); first | exact .refl _ | exact .nils (.refl _) | exact .top (.refl _))
      | some xc =>
        obtain ⟨x, c⟩ := xc
        have hle := rdV_le _ _ _ _ _ hx
        simp at hle
        rw [hx] at hd
        have f2 : (!(rdV (b.drop p) 0 0).isSome) = false := by rw [hx]; rfl
        have f3 : rdC p (rdV (b.drop p) 0 0) = ((p + c : Nat) : Int) := by rw [hx]; rfl
        have f4 : rdN (rdV (b.drop p) 0 0) = (x : Int) := by rw [hx]; rfl
        (repeat' ((conv => whnf); first | refine stp ?_ | refine Cl.mk (i_ReadVarint b p hb hp) ?_ | refine Cl.pre (by simp only [shcLL_ints, shcLL_byts, shcLL_strs, Fetc.shcs, Mani.shcs, Name.shcs, Segm.shcs]; rfl) ?_))
        refine Nx.intro m (by omega) _ (WkS.weak _ _) ⟨p + c, k + 1, o ++ [(x : Int)], hd, by omega, by omega, by simp; omega, ?_⟩
        (repeat' (first | exact rfl | refine consE ?_ ?_ | refine entE ?_ | refine vI ?_ | refine vS ?_ | refine vT ?_ | refine vB ?_))
        all_goals first | rw [f3] | (rw [f4]; simp)
theorem vMani_len {p : Mani} (h : vMani p = true) : p.dig.length ≤ 8 := by
  simp [vMani, inR_t] at h
  obtain ⟨⟨⟨h1, h2⟩, h3⟩, -⟩ := h
  have h4 : cdiv p.len p.seg ≤ 8 := by
    unfold cdiv
    split
    · have : (p.len + p.seg - 1) / p.seg < 9 := Int.ediv_lt_of_lt_mul (by omega) (by omega)
      omega
    · omega
  omega
theorem is28 : FI 28 Tryz.f28 := ⟨⟨Tryz.f28, Tryz.func28, rfl, rfl, rfl, rfl⟩, rfl⟩
set_option maxRecDepth 20000 in
set_option maxHeartbeats 16000000 in
theorem i_EncodeManifest (p : Mani) (hl : p.dig.length ≤ 1048576) : FO 28 [A (p.c false)] [A (p.c false)] (Ys true (if vMani p then encs (p.seg :: p.len :: p.dig) else [])) := by
  refine fok envOk mixed is28 ⟨rfl, rfl, ?_⟩
  cases hv : vMani p with
  | false =>
    have f1 : (!vMani p) = true := by simp [hv]
    (repeat' ((conv => whnf); first | refine stp ?_ | refine Cl.mk (i_ValidManifest p hl) ?_ | refine Cl.pre (by simp only [shcLL_ints, shcLL_byts, shcLL_strs, Fetc.shcs, Mani.shcs, Name.shcs, Segm.shcs]; rfl) ?_))
    (refine Vs.Fin.mk (WkR.of ?_) (.refl _); first | exact .refl _ | exact .nils (.refl _) | exact .top (.refl _))
  | true =>
    have hd8 : p.dig.length ≤ 8 := vMani_len hv
    have f1 : (!vMani p) = false := by simp [hv]
    (repeat' ((conv => whnf); first | refine stp ?_ | refine Cl.mk (i_ValidManifest p hl) ?_ | refine Cl.pre (by simp only [shcLL_ints, shcLL_byts, shcLL_strs, Fetc.shcs, Mani.shcs, Name.shcs, Segm.shcs]; rfl) ?_))
    refine Cl.eq (i_EncodeInts (p.seg :: p.len :: p.dig) (by simp; omega)) (by simp [shcLL_append, shcLL, shcL, shc, capArgs]) ?_
    (repeat' ((conv => whnf); first | refine stp ?_ ))
    refine Vs.Fin.mk (WkR.of (.sl1 ?_ .nil)) (.refl _)
    simp
def decM (b : List UInt8) : Option Mani := match decI b 0 2 with
  | some ([x, y], e) => match decI b e (cdiv y x) with
    | some (ds, e2) => if e2 = b.length ∧ vMani ⟨x, y, ds⟩ = true then some ⟨x, y, ds⟩ else none
    | none => none
  | _ => none
abbrev TMs (p : Mani) (b : Bool) : Arg := (.tup [(true, 3), (false, 1)], [cI p.seg, cI p.len, cIs true p.dig, cB b])
abbrev TM (o : Option Mani) : Arg := match o with
  | none => TMs ⟨0, 0, []⟩ false
  | some p => TMs p true

theorem is9 : FI 9 Tryz.f9 := ⟨⟨Tryz.f9, Tryz.func9, rfl, rfl, rfl, rfl⟩, rfl⟩
set_option maxRecDepth 20000 in
set_option maxHeartbeats 16000000 in
theorem i_DecodeManifest (b : List UInt8) (hb : b.length ≤ 1048576) : FO 9 [Ys false b] [Ys false b] (TM (decM b)) := by
  refine fok envOk mixed is9 ⟨rfl, rfl, ?_⟩
  have h1 := i_DecodeInts b 0 2 hb (by omega)
  cases e1 : decI b 0 2 with
  | none =>
    rw [e1] at h1
    rw [show decM b = none by simp [decM, e1]]
    (repeat' ((conv => whnf); first | refine stp ?_ | refine Br.mk (fun _ => ?_) (fun _ => ?_) | refine Cl.mk (h1) ?_ | refine Cl.pre (by simp only [shcLL_ints, shcLL_byts, shcLL_strs, Fetc.shcs, Mani.shcs, Name.shcs, Segm.shcs]; rfl) ?_))
    (refine Vs.Fin.mk (WkR.of ?_) (.refl _); first | exact .refl _ | exact .keep (.keep (.nils (.refl _))) | exact .keep (.keep (.top (.refl _))))
  | some le =>
    obtain ⟨l, e⟩ := le
    have hle := decI_le (by omega) e1
    match l, hle with
    | [x, y], hle =>
      rw [e1] at h1
      have h2 := i_DecodeInts b e (cdiv y x) hb (by omega)
      cases e2 : decI b e (cdiv y x) with
      | none =>
        rw [e2] at h2
        rw [show decM b = none by simp [decM, e1, e2]]
        (repeat' ((conv => whnf); first | refine stp ?_ | refine Br.mk (fun _ => ?_) (fun _ => ?_) | refine Cl.mk (h1) ?_ | refine El.mk rfl ?_ | refine Cl.mk (i_CeilDiv _ _) ?_ | refine Cl.mk (h2) ?_ | refine Cl.pre (by simp only [shcLL_ints, shcLL_byts, shcLL_strs, Fetc.shcs, Mani.shcs, Name.shcs, Segm.shcs]; rfl) ?_))
        all_goals (refine Vs.Fin.mk (WkR.of ?_) (.refl _); first | exact .refl _ | exact .keep (.keep (.nils (.refl _))) | exact .keep (.keep (.top (.refl _))))
      | some de =>
        obtain ⟨ds, e3⟩ := de
        rw [e2] at h2
        have hld := decI_le (by omega) e2
        have hdm : decM b = if e3 = b.length ∧ vMani ⟨x, y, ds⟩ = true then some ⟨x, y, ds⟩ else none := by simp [decM, e1, e2]
        rw [hdm]
        (repeat' ((conv => whnf); first | refine stp ?_ | refine Br.mk (fun _ => ?_) (fun _ => ?_) | refine Cl.mk (h1) ?_ | refine El.mk rfl ?_ | refine Cl.mk (i_CeilDiv _ _) ?_ | refine Cl.mk (h2) ?_ | refine Cl.mk (i_ValidManifest ⟨x, y, ds⟩ (by simp; omega)) ?_ | refine Cl.pre (by simp only [shcLL_ints, shcLL_byts, shcLL_strs, Fetc.shcs, Mani.shcs, Name.shcs, Segm.shcs]; rfl) ?_))
        all_goals first
          | (rw [if_pos ⟨by simp_all <;> omega, by simp_all <;> omega⟩]; (refine Vs.Fin.mk (WkR.of ?_) (.refl _); first | exact .refl _ | exact .keep (.keep (.nils (.refl _))) | exact .keep (.keep (.top (.refl _)))))
          | (rw [if_neg (by intro h; simp_all <;> omega)]; (refine Vs.Fin.mk (WkR.of ?_) (.refl _); first | exact .refl _ | exact .keep (.keep (.nils (.refl _))) | exact .keep (.keep (.top (.refl _)))))
theorem encM_len (p : Mani) : (if vMani p = true then encs (p.seg :: p.len :: p.dig) else []).length ≤ 1048576 := by
  split
  · rename_i h
    have := vMani_len h
    have := encs_len (p.seg :: p.len :: p.dig)
    simp at this
    omega
  · simp
def dM (b : List UInt8) : Mani := (decM b).getD ⟨0, 0, []⟩
theorem dM_size (b : List UInt8) : Mani.size (dM b) ≤ 1048576 := by
  unfold dM
  cases h : decM b with
  | none => simp [Mani.size]
  | some p =>
    unfold decM at h
    split at h
    · split at h
      · split at h
        · rename_i h1
          simp at h
          have := vMani_len h1.2
          simp [Mani.size, ← h] at *
          omega
        · simp at h
      · simp at h
    · simp at h
end Go.Proofs.YtoekfmkbkffciaaGreatDoor
