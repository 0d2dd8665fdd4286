/- Contracts of functions of the program: no statement of the seat is proved here. Each under the conditions that stand in it. -/
import Derived.Test.YtoekfmkbkffciaaGreatDoorOe
set_option linter.all false
namespace Go.Proofs.YtoekfmkbkffciaaGreatDoor
open Go.Vs Go.Proofs
theorem is138 : FI 138 Tryz.f138 := ⟨⟨Tryz.f138, Tryz.func138, rfl, rfl, rfl, rfl⟩, rfl⟩
theorem Clone_Bnd (l : List Bnd) (hl : l.length ≤ 1048576) : FO 138 [O (sl false 2 (l.map (Bnd.c false)))] [O (sl false 2 (l.map (Bnd.c false)))] (O (sl true 2 (l.map (Bnd.c false)))) := by
  refine FOk.nilSplit (fun h => ?_) ?_
  · refine fok envOk mixed is138 ⟨rfl, rfl, ?_⟩
    rw [h]
    (repeat' ((conv => whnf); first | refine stp ?_ | refine Br.mk (fun _ => ?_) (fun _ => ?_) ))
    exact ⟨WkR.of (.nils .nil), .refl _⟩
  · refine fok envOk mixed is138 ⟨rfl, rfl, ?_⟩
    refine Br.ff ?_
    refine Rq.mk (by simp; omega) ?_
    refine ⟨rfl, WkR.of (.sl1 ?_ .nil), .refl _⟩
    simp
theorem is140 : FI 140 Tryz.f140 := ⟨⟨Tryz.f140, Tryz.func140, rfl, rfl, rfl, rfl⟩, rfl⟩
set_option maxRecDepth 20000 in
set_option maxHeartbeats 16000000 in
theorem IndexFunc_Bnd1 {l : List Bnd} (hl : l.length ≤ 1099511627776) {g : Nat} {cc0 : List AV} {co0 : Nat} {p : Bnd → Bool} (hg : ∀ x ∈ l, FO g [A (Bnd.c false x), O (.cp cc0 co0)] [A (Bnd.c false x), O (.cp cc0 co0)] (B (p x))) : FO 140 [O (sl false 2 (l.map (Bnd.c false))), O (.clo g [.cp cc0 co0])] [O (sl false 2 (l.map (Bnd.c false))), O (.clo g [.cp cc0 co0])] (I (findI p l 0)) := by
  refine fok envOk mixed is140 ⟨rfl, rfl, ?_⟩
  refine Nm.mk lenC ?_
  refine Lp.mk [.sl 0, .sl 1, .sl 7, .sl 8] (fun m σ => ∃ d r, l = d ++ r ∧ m = r.length ∧ d.any p = false ∧ σ = [Sa 0 (O (sl false 2 (l.map (Bnd.c false)))), Sa 1 (O (.clo g [.cp cc0 co0])), Sa 7 (I l.length), Sa 8 (I d.length)]) (l.length) _ (WkS.weak _ _) ⟨[], l, rfl, rfl, rfl, (by first | rfl | (simp only [zlen, zsum, Nat.zero_mul, Int.add_zero, Int.sub_zero, List.nil_append, markG]; rfl))⟩ ?_
  rintro m τ ⟨d, r, rfl, rfl, hd, rfl⟩
  cases r with
  | nil =>
    refine Br.neg (by simp) ?_
    (repeat' ((conv => whnf); first | refine stp ?_ | refine Br.mk (fun _ => ?_) (fun _ => ?_) ))
    refine Vs.Fin.mk (WkR.eq ?_) (.refl _)
    rw [findI_none (by simpa using hd)]
  | cons x r =>
    refine Br.pos (by simp; omega) ?_
    refine Rq.mk ⟨by omega, by simp; omega⟩ ?_
    refine El.mk (getA rfl) ?_
    refine Cl.mk (hg x (by simp)) ?_
    refine Rq.mk (by simp [dOwnL, dOwn]) ?_
    refine Br.mk (fun h => ?_) (fun h => ?_)
    · (repeat' ((conv => whnf); first | refine stp ?_ | refine Br.mk (fun _ => ?_) (fun _ => ?_) ))
      refine Vs.Fin.mk (WkR.eq ?_) (.refl _)
      rw [findI_at hd h]; simp
    · refine Nm.mk (wrapI (by omega) (by simp at hl; omega)) ?_
      refine Nx.intro r.length (by simp) _ (WkS.weak _ _) ⟨d ++ [x], r, by simp, rfl, by simp_all, ?_⟩
      rw [len1]; rfl
theorem is118 : FI 118 Tryz.f118 := ⟨⟨Tryz.f118, Tryz.func118, rfl, rfl, rfl, rfl⟩, rfl⟩
set_option maxRecDepth 20000 in
set_option maxHeartbeats 16000000 in
theorem IndexFunc_Rul2 {l : List Rul} (hl : l.length ≤ 1099511627776) {g : Nat} {cc0 : List AV} {co0 : Nat} {cc1 : List AV} {co1 : Nat} {p : Rul → Bool} (hg : ∀ x ∈ l, FO g [A (Rul.c false x), O (.cp cc0 co0), O (.cp cc1 co1)] [A (Rul.c false x), O (.cp cc0 co0), O (.cp cc1 co1)] (B (p x))) : FO 118 [O (sl false 2 (l.map (Rul.c false))), O (.clo g [.cp cc0 co0, .cp cc1 co1])] [O (sl false 2 (l.map (Rul.c false))), O (.clo g [.cp cc0 co0, .cp cc1 co1])] (I (findI p l 0)) := by
  refine fok envOk mixed is118 ⟨rfl, rfl, ?_⟩
  refine Nm.mk lenC ?_
  refine Lp.mk [.sl 0, .sl 1, .sl 7, .sl 8] (fun m σ => ∃ d r, l = d ++ r ∧ m = r.length ∧ d.any p = false ∧ σ = [Sa 0 (O (sl false 2 (l.map (Rul.c false)))), Sa 1 (O (.clo g [.cp cc0 co0, .cp cc1 co1])), Sa 7 (I l.length), Sa 8 (I d.length)]) (l.length) _ (WkS.weak _ _) ⟨[], l, rfl, rfl, rfl, (by first | rfl | (simp only [zlen, zsum, Nat.zero_mul, Int.add_zero, Int.sub_zero, List.nil_append, markG]; rfl))⟩ ?_
  rintro m τ ⟨d, r, rfl, rfl, hd, rfl⟩
  cases r with
  | nil =>
    refine Br.neg (by simp) ?_
    (repeat' ((conv => whnf); first | refine stp ?_ | refine Br.mk (fun _ => ?_) (fun _ => ?_) ))
    refine Vs.Fin.mk (WkR.eq ?_) (.refl _)
    rw [findI_none (by simpa using hd)]
  | cons x r =>
    refine Br.pos (by simp; omega) ?_
    refine Rq.mk ⟨by omega, by simp; omega⟩ ?_
    refine El.mk (getA rfl) ?_
    refine Cl.mk (hg x (by simp)) ?_
    refine Rq.mk (by simp [dOwnL, dOwn]) ?_
    refine Br.mk (fun h => ?_) (fun h => ?_)
    · (repeat' ((conv => whnf); first | refine stp ?_ | refine Br.mk (fun _ => ?_) (fun _ => ?_) ))
      refine Vs.Fin.mk (WkR.eq ?_) (.refl _)
      rw [findI_at hd h]; simp
    · refine Nm.mk (wrapI (by omega) (by simp at hl; omega)) ?_
      refine Nx.intro r.length (by simp) _ (WkS.weak _ _) ⟨d ++ [x], r, by simp, rfl, by simp_all, ?_⟩
      rw [len1]; rfl
theorem is93 : FI 93 Tryz.f93 := ⟨⟨Tryz.f93, Tryz.func93, rfl, rfl, rfl, rfl⟩, rfl⟩
set_option maxRecDepth 20000 in
set_option maxHeartbeats 16000000 in
theorem IndexFunc_Data3 {l : List Data} (hl : l.length ≤ 1099511627776) {g : Nat} {cc0 : List AV} {co0 : Nat} {cc1 : List AV} {co1 : Nat} {cc2 : List AV} {co2 : Nat} {p : Data → Bool} (hg : ∀ x ∈ l, FO g [A (Data.c false x), O (.cp cc0 co0), O (.cp cc1 co1), O (.cp cc2 co2)] [A (Data.c false x), O (.cp cc0 co0), O (.cp cc1 co1), O (.cp cc2 co2)] (B (p x))) : FO 93 [O (sl false 5 (l.map (Data.c false))), O (.clo g [.cp cc0 co0, .cp cc1 co1, .cp cc2 co2])] [O (sl false 5 (l.map (Data.c false))), O (.clo g [.cp cc0 co0, .cp cc1 co1, .cp cc2 co2])] (I (findI p l 0)) := by
  refine fok envOk mixed is93 ⟨rfl, rfl, ?_⟩
  refine Nm.mk lenC ?_
  refine Lp.mk [.sl 0, .sl 1, .sl 7, .sl 8] (fun m σ => ∃ d r, l = d ++ r ∧ m = r.length ∧ d.any p = false ∧ σ = [Sa 0 (O (sl false 5 (l.map (Data.c false)))), Sa 1 (O (.clo g [.cp cc0 co0, .cp cc1 co1, .cp cc2 co2])), Sa 7 (I l.length), Sa 8 (I d.length)]) (l.length) _ (WkS.weak _ _) ⟨[], l, rfl, rfl, rfl, (by first | rfl | (simp only [zlen, zsum, Nat.zero_mul, Int.add_zero, Int.sub_zero, List.nil_append, markG]; rfl))⟩ ?_
  rintro m τ ⟨d, r, rfl, rfl, hd, rfl⟩
  cases r with
  | nil =>
    refine Br.neg (by simp) ?_
    (repeat' ((conv => whnf); first | refine stp ?_ | refine Br.mk (fun _ => ?_) (fun _ => ?_) ))
    refine Vs.Fin.mk (WkR.eq ?_) (.refl _)
    rw [findI_none (by simpa using hd)]
  | cons x r =>
    refine Br.pos (by simp; omega) ?_
    refine Rq.mk ⟨by omega, by simp; omega⟩ ?_
    refine El.mk (getA rfl) ?_
    refine Cl.mk (hg x (by simp)) ?_
    refine Rq.mk (by simp [dOwnL, dOwn]) ?_
    refine Br.mk (fun h => ?_) (fun h => ?_)
    · (repeat' ((conv => whnf); first | refine stp ?_ | refine Br.mk (fun _ => ?_) (fun _ => ?_) ))
      refine Vs.Fin.mk (WkR.eq ?_) (.refl _)
      rw [findI_at hd h]; simp
    · refine Nm.mk (wrapI (by omega) (by simp at hl; omega)) ?_
      refine Nx.intro r.length (by simp) _ (WkS.weak _ _) ⟨d ++ [x], r, by simp, rfl, by simp_all, ?_⟩
      rw [len1]; rfl
theorem is121 : FI 121 Tryz.f121 := ⟨⟨Tryz.f121, Tryz.func121, rfl, rfl, rfl, rfl⟩, rfl⟩
set_option maxRecDepth 20000 in
set_option maxHeartbeats 16000000 in
theorem IndexFunc_Name1 {l : List Name} (hl : l.length ≤ 1099511627776) {g : Nat} {cc0 : List AV} {co0 : Nat} {p : Name → Bool} (hg : ∀ x ∈ l, FO g [A (Name.c false x), O (.cp cc0 co0)] [A (Name.c false x), O (.cp cc0 co0)] (B (p x))) : FO 121 [O (sl false 1 (l.map (Name.c false))), O (.clo g [.cp cc0 co0])] [O (sl false 1 (l.map (Name.c false))), O (.clo g [.cp cc0 co0])] (I (findI p l 0)) := by
  refine fok envOk mixed is121 ⟨rfl, rfl, ?_⟩
  refine Nm.mk lenC ?_
  refine Lp.mk [.sl 0, .sl 1, .sl 7, .sl 8] (fun m σ => ∃ d r, l = d ++ r ∧ m = r.length ∧ d.any p = false ∧ σ = [Sa 0 (O (sl false 1 (l.map (Name.c false)))), Sa 1 (O (.clo g [.cp cc0 co0])), Sa 7 (I l.length), Sa 8 (I d.length)]) (l.length) _ (WkS.weak _ _) ⟨[], l, rfl, rfl, rfl, (by first | rfl | (simp only [zlen, zsum, Nat.zero_mul, Int.add_zero, Int.sub_zero, List.nil_append, markG]; rfl))⟩ ?_
  rintro m τ ⟨d, r, rfl, rfl, hd, rfl⟩
  cases r with
  | nil =>
    refine Br.neg (by simp) ?_
    (repeat' ((conv => whnf); first | refine stp ?_ | refine Br.mk (fun _ => ?_) (fun _ => ?_) ))
    refine Vs.Fin.mk (WkR.eq ?_) (.refl _)
    rw [findI_none (by simpa using hd)]
  | cons x r =>
    refine Br.pos (by simp; omega) ?_
    refine Rq.mk ⟨by omega, by simp; omega⟩ ?_
    refine El.mk (getA rfl) ?_
    refine Cl.mk (hg x (by simp)) ?_
    refine Rq.mk (by simp [dOwnL, dOwn]) ?_
    refine Br.mk (fun h => ?_) (fun h => ?_)
    · (repeat' ((conv => whnf); first | refine stp ?_ | refine Br.mk (fun _ => ?_) (fun _ => ?_) ))
      refine Vs.Fin.mk (WkR.eq ?_) (.refl _)
      rw [findI_at hd h]; simp
    · refine Nm.mk (wrapI (by omega) (by simp at hl; omega)) ?_
      refine Nx.intro r.length (by simp) _ (WkS.weak _ _) ⟨d ++ [x], r, by simp, rfl, by simp_all, ?_⟩
      rw [len1]; rfl
theorem is91 : FI 91 Tryz.f91 := ⟨⟨Tryz.f91, Tryz.func91, rfl, rfl, rfl, rfl⟩, rfl⟩
set_option maxRecDepth 20000 in
set_option maxHeartbeats 16000000 in
theorem ContainsFunc_Name1 {l : List Name} (hl : l.length ≤ 1099511627776) {g : Nat} {cc0 : List AV} {co0 : Nat} {p : Name → Bool} (hg : ∀ x ∈ l, FO g [A (Name.c false x), O (.cp cc0 co0)] [A (Name.c false x), O (.cp cc0 co0)] (B (p x))) : FO 91 [O (sl false 1 (l.map (Name.c false))), O (.clo g [.cp cc0 co0])] [O (sl false 1 (l.map (Name.c false))), O (.clo g [.cp cc0 co0])] (B (l.any p)) := by
  refine fok envOk mixed is91 ⟨rfl, rfl, ?_⟩
  (repeat' ((conv => whnf); first | refine stp ?_ | refine Br.mk (fun _ => ?_) (fun _ => ?_) | refine Cl.mk (IndexFunc_Name1 hl hg) ?_ | refine Cl.pre (by simp only [shcLL_ints, shcLL_byts, shcLL_strs, Bnd.shcs, Data.shcs, Fetc.shcs, Gran.shcs, Keyy.shcs, Mani.shcs, Name.shcs, Read.shcs, Rout.shcs, Rul.shcs, Segm.shcs, TEnt.shcs, Tru.shcs]; rfl) ?_))
  refine Vs.Fin.mk (WkR.eq ?_) (.refl _)
  rw [← findI_ge l 0 (by omega)]
/-! Name patterns and rules, as the program matches them -/
theorem is150 : FI 150 Tryz.f150 := ⟨⟨Tryz.f150, Tryz.func150, rfl, rfl, rfl, rfl⟩, rfl⟩
set_option maxRecDepth 20000 in
set_option maxHeartbeats 16000000 in
theorem Index_string (l : List ByteArray) (x : ByteArray) (hl : l.length ≤ 1099511627776) : FO 150 [Ss false l, S x] [Ss false l, S x] (I (findI (fun y => decide (y = x)) l 0)) := by
  refine fok envOk mixed is150 ⟨rfl, rfl, ?_⟩
  refine Nm.mk lenC ?_
  refine Lp.mk [.sl 0, .sl 1, .sl 7, .sl 8] (fun m σ => ∃ d r, l = d ++ r ∧ m = r.length ∧ (d.any fun y => decide (y = x)) = false ∧ σ = [Sa 0 (Ss false l), Sa 1 (S x), Sa 7 (I l.length), Sa 8 (I d.length)]) (l.length) _ (WkS.weak _ _) ⟨[], l, rfl, rfl, rfl, (by first | rfl | (simp only [zlen, zsum, Nat.zero_mul, Int.add_zero, Int.sub_zero, List.nil_append, markG]; rfl))⟩ ?_
  rintro m τ ⟨d, r, rfl, rfl, hd, rfl⟩
  cases r with
  | nil =>
    refine Br.neg (by simp) ?_
    (repeat' ((conv => whnf); first | refine stp ?_ | refine Br.mk (fun _ => ?_) (fun _ => ?_) ))
    refine Vs.Fin.mk (WkR.eq ?_) (.refl _)
    rw [findI_none (by simpa using hd)]
  | cons y r =>
    simp at hl
    refine Br.pos (by simp; omega) ?_
    refine Rq.mk ⟨by omega, by simp; omega⟩ ?_
    refine El.mk (getA rfl) ?_
    (conv => whnf)
    have e := @sE x y
    have e := @sE y x
    refine Br.mk (fun h => ?_) (fun h => ?_)
    · (repeat' ((conv => whnf); first | refine stp ?_ | refine Br.mk (fun _ => ?_) (fun _ => ?_) ))
      refine Vs.Fin.mk (WkR.eq ?_) (.refl _)
      rw [findI_at hd (by simp_all)]; simp
    · have hne : ¬ y = x := by rintro rfl; simp at h
      refine Nm.mk (wrapI (by omega) (by omega)) ?_
      refine Nx.intro r.length (by simp) _ (WkS.weak _ _) ⟨d ++ [y], r, by simp, rfl, by simp_all, ?_⟩
      rw [len1]; rfl
theorem is143 : FI 143 Tryz.f143 := ⟨⟨Tryz.f143, Tryz.func143, rfl, rfl, rfl, rfl⟩, rfl⟩
set_option maxRecDepth 20000 in
set_option maxHeartbeats 16000000 in
theorem Contains_string (l : List ByteArray) (x : ByteArray) (hl : l.length ≤ 1099511627776) : FO 143 [Ss false l, S x] [Ss false l, S x] (B (l.any fun y => decide (y = x))) := by
  refine fok envOk mixed is143 ⟨rfl, rfl, ?_⟩
  (repeat' ((conv => whnf); first | refine stp ?_ | refine Br.mk (fun _ => ?_) (fun _ => ?_) | refine Cl.mk (Index_string l x hl) ?_ | refine Cl.pre (by simp only [shcLL_ints, shcLL_byts, shcLL_strs, Bnd.shcs, Data.shcs, Fetc.shcs, Gran.shcs, Keyy.shcs, Mani.shcs, Name.shcs, Read.shcs, Rout.shcs, Rul.shcs, Segm.shcs, TEnt.shcs, Tru.shcs]; rfl) ?_))
  refine Vs.Fin.mk (WkR.eq ?_) (.refl _)
  rw [findI_ge l 0 (by omega)]
theorem is139 : FI 139 Tryz.f139 := ⟨⟨Tryz.f139, Tryz.func139, rfl, rfl, rfl, rfl⟩, rfl⟩
set_option maxRecDepth 20000 in
set_option maxHeartbeats 16000000 in
theorem i_ValidPattern (p : List ByteArray) (hz : strsSize p ≤ 109951162777) : FO 139 [A [cSs false p]] [A [cSs false p]] (B (vPat p)) := by
  refine fok envOk mixed is139 ⟨rfl, rfl, ?_⟩
  have hl := strs_len hz
  refine Nm.mk lenC ?_
  refine Lp.mk [.bx 1, .sl 1, .sl 6, .sl 7, .sl 8] (fun m σ => ∃ d r, p = d ++ r ∧ m = r.length ∧ okPs p = okPs r ∧ σ = [Bx 1 ([cSs false p]), Pt 1, Sa 6 (O (cSs false p)), Sa 7 (I p.length), Sa 8 (I d.length)]) (p.length) _ (WkS.weak _ _) ⟨[], p, rfl, rfl, rfl, (by first | rfl | (simp only [zlen, zsum, Nat.zero_mul, Int.add_zero, Int.sub_zero, List.nil_append, markG]; rfl))⟩ ?_
  rintro m τ ⟨d, r, rfl, rfl, hok, rfl⟩
  cases r with
  | nil =>
    refine Br.neg (by simp) ?_
    (repeat' ((conv => whnf); first | refine stp ?_ | refine Br.mk (fun _ => ?_) (fun _ => ?_) ))
    refine Vs.Fin.mk (WkR.eq ?_) (.refl _)
    simp_all [vPat, okPs]
    omega
  | cons x r =>
    have hx := strs_mem hz (s := x) (by simp)
    simp at hl
    refine Br.pos (by simp; omega) ?_
    cases r with
    | nil =>
      have f1 : (!((d.length : Int) == ((d ++ [x]).length : Int) - 1)) = false := by simp
      (repeat' ((conv => whnf); first | refine stp ?_ | refine Br.mk (fun _ => ?_) (fun _ => ?_) | refine El.mk (getA rfl) ?_ | refine Cl.mk (i_ValidPart x (by omega)) ?_ | refine Cl.mk (i_isVar x (by omega)) ?_ | refine Cl.pre (by simp only [shcLL_ints, shcLL_byts, shcLL_strs, Bnd.shcs, Data.shcs, Fetc.shcs, Gran.shcs, Keyy.shcs, Mani.shcs, Name.shcs, Read.shcs, Rout.shcs, Rul.shcs, Segm.shcs, TEnt.shcs, Tru.shcs]; rfl) ?_))
      all_goals (try simp only [beSt, beSs] at *)
      all_goals clear f1
      all_goals first
        | (refine Vs.Fin.mk (WkR.eq ?_) (.refl _); simp_all [vPat, okPs, okP]; done)
        | (refine Nx.intro 0 (by simp) _ (WkS.weak _ _) ⟨d ++ [x], [], by simp, rfl, by simp_all [okPs, okP], ?_⟩; rw [len1]; rfl)
    | cons z r =>
      have f1 : (!((d.length : Int) == ((d ++ x :: z :: r).length : Int) - 1)) = true := by simp; omega
      (repeat' ((conv => whnf); first | refine stp ?_ | refine Br.mk (fun _ => ?_) (fun _ => ?_) | refine El.mk (getA rfl) ?_ | refine Cl.mk (i_ValidPart x (by omega)) ?_ | refine Cl.mk (i_isVar x (by omega)) ?_ | refine Cl.pre (by simp only [shcLL_ints, shcLL_byts, shcLL_strs, Bnd.shcs, Data.shcs, Fetc.shcs, Gran.shcs, Keyy.shcs, Mani.shcs, Name.shcs, Read.shcs, Rout.shcs, Rul.shcs, Segm.shcs, TEnt.shcs, Tru.shcs]; rfl) ?_))
      all_goals (try simp only [beSt, beSs] at *)
      all_goals clear f1
      all_goals first
        | (refine Vs.Fin.mk (WkR.eq ?_) (.refl _); simp_all [vPat, okPs, okP]; done)
        | (refine Nx.intro (z :: r).length (by simp) _ (WkS.weak _ _) ⟨d ++ [x], z :: r, by simp, rfl, by simp_all [okPs, okP], ?_⟩; rw [len1]; rfl)
theorem is131 : FI 131 Tryz.f131 := ⟨⟨Tryz.f131, Tryz.func131, rfl, rfl, rfl, rfl⟩, rfl⟩
set_option maxRecDepth 20000 in
set_option maxHeartbeats 16000000 in
theorem i_ValidRule (p k : List ByteArray) (hp : strsSize p ≤ 1048576) (hk : strsSize k ≤ 1048576) : FO 131 [A [cSs false p, cSs false k]] [A [cSs false p, cSs false k]] (B (vRul p k)) := by
  refine fok envOk mixed is131 ⟨rfl, rfl, ?_⟩
  have hpl := strs_len hp
  have hkl := strs_len hk
  have hV := i_ValidPattern p (by omega)
  have hW := i_ValidPattern k (by omega)
  have e : vRul p k = (vPat p && vPat k && k.all (rlP p)) := rfl
  rw [e]
  generalize vPat p = a at hV
  generalize vPat k = b at hW
  by_cases hab : a = true ∧ b = true
  case neg =>
    (repeat' ((conv => whnf); first | refine stp ?_ | refine Br.mk (fun _ => ?_) (fun _ => ?_) | refine Cl.mk (hV) ?_ | refine Cl.mk (hW) ?_ | refine Cl.pre (by simp only [shcLL_ints, shcLL_byts, shcLL_strs, Bnd.shcs, Data.shcs, Fetc.shcs, Gran.shcs, Keyy.shcs, Mani.shcs, Name.shcs, Read.shcs, Rout.shcs, Rul.shcs, Segm.shcs, TEnt.shcs, Tru.shcs]; rfl) ?_))
    all_goals first
      | (refine Vs.Fin.mk (WkR.eq ?_) (.refl _); simp_all; done)
      | (exfalso; simp_all; done)
  obtain ⟨rfl, rfl⟩ := hab
  (repeat' ((conv => whnf); first | refine stp ?_ | refine Cl.mk (hV) ?_ | refine Cl.mk (hW) ?_ | refine Cl.pre (by simp only [shcLL_ints, shcLL_byts, shcLL_strs, Bnd.shcs, Data.shcs, Fetc.shcs, Gran.shcs, Keyy.shcs, Mani.shcs, Name.shcs, Read.shcs, Rout.shcs, Rul.shcs, Segm.shcs, TEnt.shcs, Tru.shcs]; rfl) ?_))
  refine Lp.mk [.bx 1, .sl 1, .sl 17, .sl 18, .sl 19] (fun m σ => ∃ d r, k = d ++ r ∧ m = r.length ∧ d.all (rlP p) = true ∧ σ = [Bx 1 ([cSs false p, cSs false k]), Pt 1, Sa 17 (O (cSs false k)), Sa 18 (I k.length), Sa 19 (I d.length)]) (k.length) _ (WkS.weak _ _) ⟨[], k, rfl, rfl, rfl, (by first | rfl | (simp only [zlen, zsum, Nat.zero_mul, Int.add_zero, Int.sub_zero, List.nil_append, markG]; rfl))⟩ ?_
  rintro m τ ⟨d, r, rfl, rfl, hd, rfl⟩
  cases r with
  | nil =>
    refine Br.neg (by simp) ?_
    (repeat' ((conv => whnf); first | refine stp ?_ | refine Br.mk (fun _ => ?_) (fun _ => ?_) ))
    refine Vs.Fin.mk (WkR.eq ?_) (.refl _)
    simp_all
  | cons x r =>
    have hx := strs_mem hk (s := x) (by simp)
    simp at hkl
    refine Br.pos (by simp; omega) ?_
    have hA := i_isVar x (by omega)
    have hB := Contains_string p x (by omega)
    have hC : rlP p x = (!isVar x || p.any fun y => decide (y = x)) := rfl
    generalize isVar x = c at hA hC
    generalize (p.any fun y => decide (y = x)) = c2 at hB hC
    (repeat' ((conv => whnf); first | refine stp ?_ | refine Br.mk (fun _ => ?_) (fun _ => ?_) | refine El.mk (getA rfl) ?_ | refine Cl.mk (hA) ?_ | refine Cl.mk (hB) ?_ | refine Cl.pre (by simp only [shcLL_ints, shcLL_byts, shcLL_strs, Bnd.shcs, Data.shcs, Fetc.shcs, Gran.shcs, Keyy.shcs, Mani.shcs, Name.shcs, Read.shcs, Rout.shcs, Rul.shcs, Segm.shcs, TEnt.shcs, Tru.shcs]; rfl) ?_))
    all_goals first
      | (refine Vs.Fin.mk (WkR.eq ?_) (.refl _); simp_all; done)
      | (refine Nx.intro r.length (by simp) _ (WkS.weak _ _) ⟨d ++ [x], r, by simp, rfl, by simp_all, ?_⟩; rw [len1]; rfl)
end Go.Proofs.YtoekfmkbkffciaaGreatDoor
