/- Contracts of functions of the program: no statement of the seat is proved here. Each under the conditions that stand in it. -/
import Derived.Test.YtigkmijoefibiaaGreatDi
set_option linter.all false
namespace Go.Proofs.YtigkmijoefibiaaGreat
open Go.Vs Go.Proofs
theorem is214 : FI 214 Tryz.f214 := ⟨⟨Tryz.f214, Tryz.func214, rfl, rfl, rfl, rfl⟩, rfl⟩
set_option maxRecDepth 20000 in
set_option maxHeartbeats 16000000 in
theorem isNaN_int (x : Int) : FO 214 [I x] [I x] (B false) := by
  refine fok envOk mixed is214 ⟨rfl, rfl, ?_⟩
  (repeat' ((conv => whnf); first | refine stp ?_ | refine Br.mk (fun _ => ?_) (fun _ => ?_) ))
  all_goals (refine Vs.Fin.mk (WkR.eq ?_) (.refl _); simp)
def cmpI (a b : Int) : Int := if a < b then -1 else if a > b then 1 else 0
theorem is167 : FI 167 Tryz.f167 := ⟨⟨Tryz.f167, Tryz.func167, rfl, rfl, rfl, rfl⟩, rfl⟩
set_option maxRecDepth 20000 in
set_option maxHeartbeats 16000000 in
theorem Compare_int (a b : Int) : FO 167 [I a, I b] [I a, I b] (I (cmpI a b)) := by
  refine fok envOk mixed is167 ⟨rfl, rfl, ?_⟩
  (repeat' ((conv => whnf); first | refine stp ?_ | refine Br.mk (fun _ => ?_) (fun _ => ?_) | refine Cl.mk (isNaN_int _) ?_ | refine Cl.pre (by simp only [shcLL_ints, shcLL_byts, shcLL_strs, Adve.shcs, Fetc.shcs, Gran.shcs, Keyy.shcs, Link.shcs, Mani.shcs, Name.shcs, Read.shcs, Rout.shcs, Segm.shcs, TEnt.shcs, Topo.shcs]; rfl) ?_))
  all_goals (refine Vs.Fin.mk (WkR.eq ?_) (.refl _); first | (simp_all [cmpI]; done) | (simp_all [cmpI]; (repeat' split) <;> omega))
def orL : List Int → Int
  | [] => 0
  | x :: r => if x = 0 then orL r else x
theorem is166 : FI 166 Tryz.f166 := ⟨⟨Tryz.f166, Tryz.func166, rfl, rfl, rfl, rfl⟩, rfl⟩
set_option maxRecDepth 20000 in
set_option maxHeartbeats 16000000 in
theorem Or_int (l : List Int) (hl : l.length ≤ 1048576) : FO 166 [Is false l] [Is false l] (I (orL l)) := by
  refine fok envOk mixed is166 ⟨rfl, rfl, ?_⟩
  refine Nm.mk lenC ?_
  refine Lp.mk [.sl 3, .sl 6, .sl 7, .sl 8] (fun m σ => ∃ d r, l = d ++ r ∧ m = r.length ∧ orL l = orL r ∧ σ = [Sa 3 (I 0), Sa 6 (Is false l), Sa 7 (I l.length), Sa 8 (I d.length)]) (l.length) _ (WkS.weak _ _) ⟨[], l, rfl, rfl, rfl, (by first | rfl | (simp only [zlen, zsum, Nat.zero_mul, Int.add_zero, Int.sub_zero, List.nil_append, markG]; rfl))⟩ ?_
  rintro m τ ⟨d, r, hl2, rfl, hd, rfl⟩
  rw [hd]
  have hy : l.length = d.length + r.length := by rw [hl2]; simp
  cases r with
  | nil =>
    refine Br.neg (by simp at *; omega) ?_
    (repeat' ((conv => whnf); first | refine stp ?_ ))
    exact Vs.Fin.mk (WkR.refl _) (.refl _)
  | cons x r =>
    simp at hy
    refine Br.pos (by simp; omega) ?_
    (repeat' ((conv => whnf); first | refine stp ?_ | refine El.mk (getH hl2 rfl) ?_ | refine Cl.pre (by simp only [shcLL_ints, shcLL_byts, shcLL_strs, Adve.shcs, Fetc.shcs, Gran.shcs, Keyy.shcs, Link.shcs, Mani.shcs, Name.shcs, Read.shcs, Rout.shcs, Segm.shcs, TEnt.shcs, Topo.shcs]; rfl) ?_))
    refine Br.mk (fun h => ?_) (fun h => ?_)
    · (repeat' ((conv => whnf); first | refine stp ?_ ))
      refine Vs.Fin.mk (WkR.eq ?_) (.refl _)
      rw [orL, if_neg (by simpa using h)]
    · (repeat' ((conv => whnf); first | refine stp ?_ ))
      refine Nx.intro r.length (by simp) _ (WkS.weak _ _) ⟨d ++ [x], r, by simp [hl2], rfl, by rw [orL, if_pos (by simpa using h)], ?_⟩
      rw [len1]; rfl
def cmpLk (a b : Link) : Int := orL [cmpI a.a b.a, cmpI a.b b.b]
theorem cmpLk_ge (a b : Link) : decide (cmpLk a b ≥ 0) = !ltL a b := by
  unfold cmpLk ltL
  simp only [orL]
  have h : cmpI a.a b.a = -1 ∧ a.a < b.a ∨ cmpI a.a b.a = 0 ∧ a.a = b.a ∨ cmpI a.a b.a = 1 ∧ b.a < a.a := by unfold cmpI; split <;> (try split) <;> omega
  have h2 : cmpI a.b b.b = -1 ∧ a.b < b.b ∨ cmpI a.b b.b = 0 ∧ a.b = b.b ∨ cmpI a.b b.b = 1 ∧ b.b < a.b := by unfold cmpI; split <;> (try split) <;> omega
  rcases h with ⟨h, h'⟩ | ⟨h, h'⟩ | ⟨h, h'⟩ <;> rcases h2 with ⟨k, k'⟩ | ⟨k, k'⟩ | ⟨k, k'⟩ <;> simp [h, k] <;> omega
theorem is205 : FI 205 Tryz.f205 := ⟨⟨Tryz.f205, Tryz.func205, rfl, rfl, rfl, rfl⟩, rfl⟩
set_option maxRecDepth 20000 in
set_option maxHeartbeats 16000000 in
theorem i_compareLinks (a b : Link) : FO 205 [A (Link.c false a), A (Link.c false b)] [A (Link.c false a), A (Link.c false b)] (I (cmpLk a b)) := by
  refine fok envOk mixed is205 ⟨rfl, rfl, ?_⟩
  (repeat' ((conv => whnf); first | refine stp ?_ | refine Br.mk (fun _ => ?_) (fun _ => ?_) | refine Cl.mk (Compare_int _ _) ?_ | refine Cl.pre (by simp only [shcLL_ints, shcLL_byts, shcLL_strs, Adve.shcs, Fetc.shcs, Gran.shcs, Keyy.shcs, Link.shcs, Mani.shcs, Name.shcs, Read.shcs, Rout.shcs, Segm.shcs, TEnt.shcs, Topo.shcs]; rfl) ?_))
  refine Cl.eq (Or_int [cmpI a.a b.a, cmpI a.b b.b] (by simp)) (by simp only [shcLL, shcL, Vs.shc]; rfl) ?_
  (repeat' ((conv => whnf); first | refine stp ?_ | refine Br.mk (fun _ => ?_) (fun _ => ?_) ))
  exact ⟨WkR.refl _, .refl _⟩
theorem is134 : FI 134 Tryz.f134 := ⟨⟨Tryz.f134, Tryz.func134, rfl, rfl, rfl, rfl⟩, rfl⟩
set_option maxRecDepth 20000 in
set_option maxHeartbeats 16000000 in
theorem i_ValidTopology (n : Topo) (hz : n.links.length ≤ 1099511627776) : FO 134 [A (Topo.c false n)] [A (Topo.c false n)] (B (vTopo n)) := by
  refine fok envOk mixed is134 ⟨rfl, rfl, ?_⟩
  cases hs : inR n.nodes 1 6 with
  | false =>
    rw [show vTopo n = false by simp [vTopo, hs]]
    (repeat' ((conv => whnf); first | refine stp ?_ ))
    refine Lp.mk [.bx 1, .sl 1, .sl 6, .sl 7, .sl 8] (fun m σ => ∃ d r, n.links = d ++ r ∧ m = r.length ∧ σ = [Bx 1 ((Topo.c false n)), Pt 1, Sa 6 (O (sl false 2 (n.links.map (Link.c false)))), Sa 7 (I n.links.length), Sa 8 (I d.length)]) (n.links.length) _ (WkS.weak _ _) ⟨[], n.links, rfl, rfl, (by first | rfl | (simp only [zlen, zsum, Nat.zero_mul, Int.add_zero, Int.sub_zero, List.nil_append, markG]; rfl))⟩ ?_
    rintro m τ ⟨d, r, hl, rfl, rfl⟩
    have hy : n.links.length = d.length + r.length := by rw [hl]; simp
    cases r with
    | nil =>
      refine Br.neg (by simp at *; omega) ?_
      (repeat' ((conv => whnf); first | refine stp ?_ | refine Cl.mk (i_InRange _ _ _) ?_ | refine Cl.pre (by simp only [shcLL_ints, shcLL_byts, shcLL_strs, Adve.shcs, Fetc.shcs, Gran.shcs, Keyy.shcs, Link.shcs, Mani.shcs, Name.shcs, Read.shcs, Rout.shcs, Segm.shcs, TEnt.shcs, Topo.shcs]; rfl) ?_))
      rw [hs]
      exact Vs.Fin.mk (WkR.refl _) (.refl _)
    | cons x r =>
      simp at hy
      refine Br.pos (by simp; omega) ?_
      rcases lastD d with rfl | ⟨d', q, rfl⟩
      · (repeat' ((conv => whnf); first | refine stp ?_ | refine Br.mk (fun _ => ?_) (fun _ => ?_) | refine El.mk (getH hl rfl) ?_ | refine Cl.mk (i_InRange _ _ _) ?_ | refine Nm.mk (rfl : _ = IntKind.wrap .i64 (n.nodes - 1)) ?_ | refine Nm.mk (rfl : _ = IntKind.wrap .i64 (x.a + 1)) ?_ | refine Cl.pre (by simp only [shcLL_ints, shcLL_byts, shcLL_strs, Adve.shcs, Fetc.shcs, Gran.shcs, Keyy.shcs, Link.shcs, Mani.shcs, Name.shcs, Read.shcs, Rout.shcs, Segm.shcs, TEnt.shcs, Topo.shcs]; rfl) ?_))
        all_goals first
          | exact Vs.Fin.mk (WkR.refl _) (.refl _)
          | (refine Nx.intro r.length (by simp) _ (WkS.weak _ _) ⟨[x], r, by simp [hl], rfl, ?_⟩; rfl)
          | (exfalso; simp at * <;> omega)
      · have hl2 : n.links = d' ++ q :: (x :: r) := by rw [hl]; simp
        simp at hy
        (repeat' ((conv => whnf); first | refine stp ?_ | refine Br.mk (fun _ => ?_) (fun _ => ?_) | refine El.mk (getH hl rfl) ?_ | refine El.mk (getH hl2 (by simp)) ?_ | refine Cl.mk (i_InRange _ _ _) ?_ | refine Cl.mk (i_compareLinks q x) ?_ | refine Nm.mk (rfl : _ = IntKind.wrap .i64 (n.nodes - 1)) ?_ | refine Nm.mk (rfl : _ = IntKind.wrap .i64 (x.a + 1)) ?_ | refine Cl.pre (by simp only [shcLL_ints, shcLL_byts, shcLL_strs, Adve.shcs, Fetc.shcs, Gran.shcs, Keyy.shcs, Link.shcs, Mani.shcs, Name.shcs, Read.shcs, Rout.shcs, Segm.shcs, TEnt.shcs, Topo.shcs]; rfl) ?_))
        all_goals first
          | exact Vs.Fin.mk (WkR.refl _) (.refl _)
          | (refine Nx.intro r.length (by simp) _ (WkS.weak _ _) ⟨d' ++ [q] ++ [x], r, by simp [hl], rfl, ?_⟩; rw [len1 (d := d' ++ [q]) (x := x)]; rfl)
          | (exfalso; simp at * <;> omega)
  | true =>
    have hs2 : 1 ≤ n.nodes ∧ n.nodes ≤ 6 := by simpa [inR_t] using hs
    rw [show vTopo n = lnks (n.nodes - 1) none n.links by simp [vTopo, hs]]
    (repeat' ((conv => whnf); first | refine stp ?_ ))
    refine Lp.mk [.bx 1, .sl 1, .sl 6, .sl 7, .sl 8] (fun m σ => ∃ d r, n.links = d ++ r ∧ m = r.length ∧ lnks (n.nodes - 1) none n.links = lnks (n.nodes - 1) d.getLast? r ∧ σ = [Bx 1 ((Topo.c false n)), Pt 1, Sa 6 (O (sl false 2 (n.links.map (Link.c false)))), Sa 7 (I n.links.length), Sa 8 (I d.length)]) (n.links.length) _ (WkS.weak _ _) ⟨[], n.links, rfl, rfl, rfl, (by first | rfl | (simp only [zlen, zsum, Nat.zero_mul, Int.add_zero, Int.sub_zero, List.nil_append, markG]; rfl))⟩ ?_
    rintro m τ ⟨d, r, hl, rfl, hd, rfl⟩
    rw [hd]
    have hy : n.links.length = d.length + r.length := by rw [hl]; simp
    cases r with
    | nil =>
      refine Br.neg (by simp at *; omega) ?_
      (repeat' ((conv => whnf); first | refine stp ?_ | refine Cl.mk (i_InRange _ _ _) ?_ | refine Cl.pre (by simp only [shcLL_ints, shcLL_byts, shcLL_strs, Adve.shcs, Fetc.shcs, Gran.shcs, Keyy.shcs, Link.shcs, Mani.shcs, Name.shcs, Read.shcs, Rout.shcs, Segm.shcs, TEnt.shcs, Topo.shcs]; rfl) ?_))
      rw [hs]
      exact Vs.Fin.mk (WkR.refl _) (.refl _)
    | cons x r =>
      simp at hy
      refine Br.pos (by simp; omega) ?_
      have hfst : inR x.a 0 (n.nodes - 1) = false → okLink (n.nodes - 1) d.getLast? x = false := fun h => by simp [okLink, h]
      have hsnd : inR x.a 0 (n.nodes - 1) = true → (inR x.b 0 (n.nodes - 1) && decide (x.a < x.b)) = inR x.b (x.a + 1) (n.nodes - 1) := fun h => by
        simp [inR_t] at h
        unfold inR
        by_cases h1 : x.a < x.b
        · have h2 : 0 ≤ x.b := by omega
          have h3 : x.a + 1 ≤ x.b := by omega
          simp [h1, h2, h3]
        · have h3 : ¬ x.a + 1 ≤ x.b := by omega
          simp [h1, h3]
      have hok : inR x.a 0 (n.nodes - 1) = true → okLink (n.nodes - 1) d.getLast? x = (inR x.b (x.a + 1) (n.nodes - 1) && (match d.getLast? with | none => true | some q => ltL q x)) := fun h => by
        rw [← hsnd h]; simp only [okLink, h, Bool.true_and]; cases d.getLast? <;> rfl
      have hno : okLink (n.nodes - 1) d.getLast? x = false → lnks (n.nodes - 1) d.getLast? (x :: r) = false := fun h => by rw [lnks, h]; rfl
      have hye : okLink (n.nodes - 1) d.getLast? x = true → lnks (n.nodes - 1) d.getLast? (x :: r) = lnks (n.nodes - 1) (some x) r := fun h => by rw [lnks, h]; rfl
      (repeat' ((conv => whnf); first | refine stp ?_ | refine El.mk (getH hl rfl) ?_ | refine Cl.mk (i_InRange _ _ _) ?_ | refine Cl.pre (by simp only [shcLL_ints, shcLL_byts, shcLL_strs, Adve.shcs, Fetc.shcs, Gran.shcs, Keyy.shcs, Link.shcs, Mani.shcs, Name.shcs, Read.shcs, Rout.shcs, Segm.shcs, TEnt.shcs, Topo.shcs]; rfl) ?_))
      refine Br.mk (fun a1 => ?_) (fun a1 => ?_)
      · rw [hno (hfst (by simpa using a1))]
        (repeat' ((conv => whnf); first | refine stp ?_ ))
        exact Vs.Fin.mk (WkR.refl _) (.refl _)
      have a1' : inR x.a 0 (n.nodes - 1) = true := by simpa using a1
      have a2' : 0 ≤ x.a ∧ x.a ≤ n.nodes - 1 := by simpa [inR_t] using a1'
      have hok := hok a1'
      (repeat' ((conv => whnf); first | refine stp ?_ | refine Cl.mk (i_InRange _ _ _) ?_ | refine Cl.pre (by simp only [shcLL_ints, shcLL_byts, shcLL_strs, Adve.shcs, Fetc.shcs, Gran.shcs, Keyy.shcs, Link.shcs, Mani.shcs, Name.shcs, Read.shcs, Rout.shcs, Segm.shcs, TEnt.shcs, Topo.shcs]; rfl) ?_))
      refine Br.mk (fun a2 => ?_) (fun a2 => ?_)
      · rw [hno (by rw [hok]; simp_all)]
        (repeat' ((conv => whnf); first | refine stp ?_ ))
        exact Vs.Fin.mk (WkR.refl _) (.refl _)
      have b2 : inR x.b (x.a + 1) (n.nodes - 1) = true := by simpa using a2
      rcases lastD d with rfl | ⟨d', q, rfl⟩
      · have f1 : decide (((([] : List Link).length : Nat) : Int) > 0) = false := rfl
        (repeat' ((conv => whnf); first | refine stp ?_ ))
        refine Nx.intro r.length (by simp) _ (WkS.weak _ _) ⟨[x], r, by simp [hl], rfl, by rw [hye (by rw [hok, b2]; rfl)]; rfl, ?_⟩
        rfl
      · have hl2 : n.links = d' ++ q :: (x :: r) := by rw [hl]; simp
        have f1 : decide ((((d' ++ [q]).length : Nat) : Int) > 0) = true := by simp <;> omega
        simp at hy
        (repeat' ((conv => whnf); first | refine stp ?_ | refine El.mk (getH hl2 (by simp)) ?_ | refine Cl.mk (i_compareLinks q x) ?_ | refine Cl.pre (by simp only [shcLL_ints, shcLL_byts, shcLL_strs, Adve.shcs, Fetc.shcs, Gran.shcs, Keyy.shcs, Link.shcs, Mani.shcs, Name.shcs, Read.shcs, Rout.shcs, Segm.shcs, TEnt.shcs, Topo.shcs]; rfl) ?_))
        rw [cmpLk_ge]
        refine Br.mk (fun a3 => ?_) (fun a3 => ?_)
        · rw [hno (by rw [hok, b2]; simpa using a3)]
          (repeat' ((conv => whnf); first | refine stp ?_ ))
          exact Vs.Fin.mk (WkR.refl _) (.refl _)
        · (repeat' ((conv => whnf); first | refine stp ?_ ))
          refine Nx.intro r.length (by simp) _ (WkS.weak _ _) ⟨d' ++ [q] ++ [x], r, by simp [hl], rfl, by rw [hye (by rw [hok, b2]; simpa using a3)]; simp, ?_⟩
          rw [len1 (d := d' ++ [q]) (x := x)]; rfl
end Go.Proofs.YtigkmijoefibiaaGreat
