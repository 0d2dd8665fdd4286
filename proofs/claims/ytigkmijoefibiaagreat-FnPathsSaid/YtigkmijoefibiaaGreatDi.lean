/- Contracts of functions of the program: no statement of the seat is proved here. Each under the conditions that stand in it. -/
import Derived.Test.YtigkmijoefibiaaGreatDh
import Derived.Test.YtigkmijoefibiaaGreatM4
set_option linter.all false
namespace Go.Proofs.YtigkmijoefibiaaGreat
open Go.Vs Go.Proofs
/-! What nodes tell of themselves -/
def ltL (q k : Link) : Bool := decide (q.a < k.a) || (decide (q.a = k.a) && decide (q.b < k.b))
def okLink (e : Int) (p : Option Link) (k : Link) : Bool := inR k.a 0 e && inR k.b 0 e && decide (k.a < k.b) && (match p with | none => true | some q => ltL q k)
def lnks (e : Int) : Option Link → List Link → Bool
  | _, [] => true
  | p, k :: r => okLink e p k && lnks e (some k) r
def vTopo (n : Topo) : Bool := inR n.nodes 1 6 && lnks (n.nodes - 1) none n.links
theorem is209 : FI 209 Tryz.f209 := ⟨⟨Tryz.f209, Tryz.func209, rfl, rfl, rfl, rfl⟩, rfl⟩
set_option maxRecDepth 20000 in
set_option maxHeartbeats 16000000 in
theorem s_l19Pair (a b : Link) : FO 209 [A (Link.c false a), A (Link.c false b)] [A (Link.c false a), A (Link.c false b)] (B (ltL a b)) := by
  refine fok envOk mixed is209 ⟨rfl, rfl, ?_⟩
  (repeat' ((conv => whnf); first | refine stp ?_ | refine Br.mk (fun _ => ?_) (fun _ => ?_) ))
  all_goals (refine Vs.Fin.mk (WkR.eq ?_) (.refl _); simp_all [ltL])
theorem lastD {α : Type} (d : List α) : d = [] ∨ ∃ d' q, d = d' ++ [q] := by
  rcases List.eq_nil_or_concat d with h | ⟨d', q, h⟩
  · exact .inl h
  · exact .inr ⟨d', q, by simpa using h⟩
theorem is141 : FI 141 Tryz.f141 := ⟨⟨Tryz.f141, Tryz.func141, rfl, rfl, rfl, rfl⟩, rfl⟩
set_option maxRecDepth 20000 in
set_option maxHeartbeats 16000000 in
theorem s_ValidTopology (n : Topo) (hz : n.links.length ≤ 1099511627776) : FO 141 [A (Topo.c false n)] [A (Topo.c false n)] (B (vTopo n)) := by
  refine fok envOk mixed is141 ⟨rfl, rfl, ?_⟩
  cases hs : inR n.nodes 1 6 with
  | false =>
    rw [show vTopo n = false by simp [vTopo, hs]]
    refine Lp.mk [.bx 1, .sl 1, .sl 3] (fun m σ => ∃ d r, n.links = d ++ r ∧ m = r.length ∧ σ = [Bx 1 ((Topo.c false n)), Pt 1, Sa 3 (I d.length)]) (n.links.length) _ (WkS.weak _ _) ⟨[], n.links, rfl, rfl, (by first | rfl | (simp only [zlen, zsum, Nat.zero_mul, Int.add_zero, Int.sub_zero, List.nil_append, markG]; rfl))⟩ ?_
    rintro m τ ⟨d, r, hl, rfl, rfl⟩
    have hy : n.links.length = d.length + r.length := by rw [hl]; simp
    refine Nm.mk lenC ?_
    cases r with
    | nil =>
      refine Br.neg (by simp at *; omega) ?_
      (repeat' ((conv => whnf); first | refine stp ?_ | refine Cl.mk (s_l1In _ _ _) ?_ | refine Cl.pre (by simp only [shcLL_ints, shcLL_byts, shcLL_strs, Adve.shcs, Fetc.shcs, Gran.shcs, Keyy.shcs, Link.shcs, Mani.shcs, Name.shcs, Read.shcs, Rout.shcs, Segm.shcs, TEnt.shcs, Topo.shcs]; rfl) ?_))
      rw [hs]
      exact Vs.Fin.mk (WkR.refl _) (.refl _)
    | cons x r =>
      simp at hy
      refine Br.pos (by simp; omega) ?_
      rcases lastD d with rfl | ⟨d', q, rfl⟩
      · (repeat' ((conv => whnf); first | refine stp ?_ | refine Br.mk (fun _ => ?_) (fun _ => ?_) | refine El.mk (getH hl rfl) ?_ | refine Cl.mk (s_l1In _ _ _) ?_ | refine Nm.mk (rfl : _ = IntKind.wrap .i64 (n.nodes - 1)) ?_ | refine Cl.pre (by simp only [shcLL_ints, shcLL_byts, shcLL_strs, Adve.shcs, Fetc.shcs, Gran.shcs, Keyy.shcs, Link.shcs, Mani.shcs, Name.shcs, Read.shcs, Rout.shcs, Segm.shcs, TEnt.shcs, Topo.shcs]; rfl) ?_))
        all_goals first
          | exact Vs.Fin.mk (WkR.refl _) (.refl _)
          | (refine Nx.intro r.length (by simp) _ (WkS.weak _ _) ⟨[x], r, by simp [hl], rfl, ?_⟩; rfl)
          | (exfalso; simp at * <;> omega)
      · have hl2 : n.links = d' ++ q :: (x :: r) := by rw [hl]; simp
        simp at hy
        (repeat' ((conv => whnf); first | refine stp ?_ | refine Br.mk (fun _ => ?_) (fun _ => ?_) | refine El.mk (getH hl rfl) ?_ | refine El.mk (getH hl2 (by simp)) ?_ | refine Cl.mk (s_l1In _ _ _) ?_ | refine Cl.mk (s_l19Pair q x) ?_ | refine Nm.mk (rfl : _ = IntKind.wrap .i64 (n.nodes - 1)) ?_ | refine Cl.pre (by simp only [shcLL_ints, shcLL_byts, shcLL_strs, Adve.shcs, Fetc.shcs, Gran.shcs, Keyy.shcs, Link.shcs, Mani.shcs, Name.shcs, Read.shcs, Rout.shcs, Segm.shcs, TEnt.shcs, Topo.shcs]; rfl) ?_))
        all_goals first
          | exact Vs.Fin.mk (WkR.refl _) (.refl _)
          | (refine Nx.intro r.length (by simp) _ (WkS.weak _ _) ⟨d' ++ [q] ++ [x], r, by simp [hl], rfl, ?_⟩; rw [len1 (d := d' ++ [q]) (x := x)]; rfl)
          | (exfalso; simp at * <;> omega)
  | true =>
    have hs2 : 1 ≤ n.nodes ∧ n.nodes ≤ 6 := by simpa [inR_t] using hs
    rw [show vTopo n = lnks (n.nodes - 1) none n.links by simp [vTopo, hs]]
    refine Lp.mk [.bx 1, .sl 1, .sl 3] (fun m σ => ∃ d r, n.links = d ++ r ∧ m = r.length ∧ lnks (n.nodes - 1) none n.links = lnks (n.nodes - 1) d.getLast? r ∧ σ = [Bx 1 ((Topo.c false n)), Pt 1, Sa 3 (I d.length)]) (n.links.length) _ (WkS.weak _ _) ⟨[], n.links, rfl, rfl, rfl, (by first | rfl | (simp only [zlen, zsum, Nat.zero_mul, Int.add_zero, Int.sub_zero, List.nil_append, markG]; rfl))⟩ ?_
    rintro m τ ⟨d, r, hl, rfl, hd, rfl⟩
    rw [hd]
    have hy : n.links.length = d.length + r.length := by rw [hl]; simp
    refine Nm.mk lenC ?_
    cases r with
    | nil =>
      refine Br.neg (by simp at *; omega) ?_
      (repeat' ((conv => whnf); first | refine stp ?_ | refine Cl.mk (s_l1In _ _ _) ?_ | refine Cl.pre (by simp only [shcLL_ints, shcLL_byts, shcLL_strs, Adve.shcs, Fetc.shcs, Gran.shcs, Keyy.shcs, Link.shcs, Mani.shcs, Name.shcs, Read.shcs, Rout.shcs, Segm.shcs, TEnt.shcs, Topo.shcs]; rfl) ?_))
      rw [hs]
      exact Vs.Fin.mk (WkR.refl _) (.refl _)
    | cons x r =>
      simp at hy
      refine Br.pos (by simp; omega) ?_
      rcases lastD d with rfl | ⟨d', q, rfl⟩
      · (repeat' ((conv => whnf); first | refine stp ?_ | refine Br.mk (fun _ => ?_) (fun _ => ?_) | refine El.mk (getH hl rfl) ?_ | refine Cl.mk (s_l1In _ _ _) ?_ | refine Cl.pre (by simp only [shcLL_ints, shcLL_byts, shcLL_strs, Adve.shcs, Fetc.shcs, Gran.shcs, Keyy.shcs, Link.shcs, Mani.shcs, Name.shcs, Read.shcs, Rout.shcs, Segm.shcs, TEnt.shcs, Topo.shcs]; rfl) ?_))
        all_goals first
          | (refine Vs.Fin.mk (WkR.eq ?_) (.refl _); rw [lnks, show okLink (n.nodes - 1) (List.getLast? ([] : List Link)) x = false by first | (simp_all [okLink]; done) | (simp_all [okLink]; omega) | (simp_all [okLink]; intros; omega)]; rfl)
          | (refine Nx.intro r.length (by simp) _ (WkS.weak _ _) ⟨[x], r, by simp [hl], rfl, by rw [lnks, show okLink (n.nodes - 1) (List.getLast? ([] : List Link)) x = true by simp_all [okLink]]; rfl, ?_⟩; rfl)
          | (exfalso; simp at * <;> omega)
      · have hl2 : n.links = d' ++ q :: (x :: r) := by rw [hl]; simp
        simp at hy
        (repeat' ((conv => whnf); first | refine stp ?_ | refine Br.mk (fun _ => ?_) (fun _ => ?_) | refine El.mk (getH hl rfl) ?_ | refine El.mk (getH hl2 (by simp)) ?_ | refine Cl.mk (s_l1In _ _ _) ?_ | refine Cl.mk (s_l19Pair q x) ?_ | refine Cl.pre (by simp only [shcLL_ints, shcLL_byts, shcLL_strs, Adve.shcs, Fetc.shcs, Gran.shcs, Keyy.shcs, Link.shcs, Mani.shcs, Name.shcs, Read.shcs, Rout.shcs, Segm.shcs, TEnt.shcs, Topo.shcs]; rfl) ?_))
        all_goals first
          | (refine Vs.Fin.mk (WkR.eq ?_) (.refl _); rw [lnks, show okLink (n.nodes - 1) (List.getLast? (d' ++ [q])) x = false by first | (simp_all [okLink]; done) | (simp_all [okLink]; omega) | (simp_all [okLink]; intros; omega)]; rfl)
          | (refine Nx.intro r.length (by simp) _ (WkS.weak _ _) ⟨d' ++ [q] ++ [x], r, by simp [hl], rfl, by rw [lnks, show okLink (n.nodes - 1) (List.getLast? (d' ++ [q])) x = true by simp_all [okLink]]; simp, ?_⟩; rw [len1 (d := d' ++ [q]) (x := x)]; rfl)
          | (exfalso; simp at * <;> omega)
end Go.Proofs.YtigkmijoefibiaaGreat
