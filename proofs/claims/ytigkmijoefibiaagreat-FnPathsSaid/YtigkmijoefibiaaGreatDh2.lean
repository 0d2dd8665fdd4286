/- Contracts of functions of the program: no statement of the seat is proved here. Each under the conditions that stand in it. -/
import Derived.Test.YtigkmijoefibiaaGreatDh
import Derived.Test.YtigkmijoefibiaaGreatM6
set_option linter.all false
namespace Go.Proofs.YtigkmijoefibiaaGreat
open Go.Vs Go.Proofs
noncomputable def leads (n : Topo) (l : List Adve) (a f t : Int) : Bool := decide (dAt l (farN n a f) t ≥ 0) && decide (dAt l (farN n a f) t < dAt l a t)
theorem is39 : FI 39 Tryz.f39 := ⟨⟨Tryz.f39, Tryz.func39, rfl, rfl, rfl, rfl⟩, rfl⟩
set_option maxRecDepth 20000 in
set_option maxHeartbeats 16000000 in
theorem s_Leads (n : Topo) (l : List Adve) (a f t : Int) (hn : n.links.length ≤ 1099511627776) (hz : l.length + sumN Adve.size l ≤ 1099511627776) : FO 39 [A (Topo.c false n), Al l, I a, I f, I t] [A (Topo.c false n), Al l, I a, I f, I t] (B (leads n l a f t)) := by
  refine fok envOk mixed is39 ⟨rfl, rfl, ?_⟩
  (repeat' ((conv => whnf); first | refine stp ?_ | refine Br.mk (fun _ => ?_) (fun _ => ?_) | refine Cl.mk (s_RemoteEnd n a f hn) ?_ | refine Cl.mk (s_Distance l (farN n a f) t hz) ?_ | refine Cl.mk (s_Distance l a t hz) ?_ | refine Cl.pre (by simp only [shcLL_ints, shcLL_byts, shcLL_strs, Adve.shcs, Fetc.shcs, Gran.shcs, Link.shcs, Mani.shcs, Name.shcs, Read.shcs, Segm.shcs, Topo.shcs]; rfl) ?_))
  all_goals (refine Vs.Fin.mk (WkR.eq ?_) (.refl _); first | (simp_all [leads]; done) | (simp_all [leads]; omega))
theorem is38 : FI 38 Tryz.f38 := ⟨⟨Tryz.f38, Tryz.func38, rfl, rfl, rfl, rfl⟩, rfl⟩
set_option maxRecDepth 20000 in
set_option maxHeartbeats 16000000 in
theorem i_Leads (n : Topo) (l : List Adve) (a f t : Int) (hn : n.links.length ≤ 1099511627776) (hz : l.length + sumN Adve.size l ≤ 1099511627776) : FO 38 [A (Topo.c false n), Al l, I a, I f, I t] [A (Topo.c false n), Al l, I a, I f, I t] (B (leads n l a f t)) := by
  refine fok envOk mixed is38 ⟨rfl, rfl, ?_⟩
  (repeat' ((conv => whnf); first | refine stp ?_ | refine Br.mk (fun _ => ?_) (fun _ => ?_) | refine Cl.mk (i_RemoteEnd n a f hn) ?_ | refine Cl.mk (i_Distance l (farN n a f) t hz) ?_ | refine Cl.mk (i_Distance l a t hz) ?_ | refine Cl.pre (by simp only [shcLL_ints, shcLL_byts, shcLL_strs, Adve.shcs, Fetc.shcs, Gran.shcs, Link.shcs, Mani.shcs, Name.shcs, Read.shcs, Segm.shcs, Topo.shcs]; rfl) ?_))
  all_goals (refine Vs.Fin.mk (WkR.eq ?_) (.refl _); first | (simp_all [leads]; done) | (simp_all [leads]; omega))
end Go.Proofs.YtigkmijoefibiaaGreat
