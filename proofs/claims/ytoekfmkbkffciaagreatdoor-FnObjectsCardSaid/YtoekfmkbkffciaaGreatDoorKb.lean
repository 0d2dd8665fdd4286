/- Contracts of functions of the program: no statement of the seat is proved here. Each under the conditions that stand in it. -/
import Derived.Test.YtoekfmkbkffciaaGreatDoorKp
import Derived.Test.YtoekfmkbkffciaaGreatDoorFw
import Derived.Test.YtoekfmkbkffciaaGreatDoorFx
set_option linter.all false
namespace Go.Proofs.YtoekfmkbkffciaaGreatDoor
open Go.Vs Go.Proofs
abbrev FY (f : Fetc) (b : List UInt8) : Arg := (.tup [(true, 9), (false, 1)], Fetc.c true f ++ [cYs true b])
theorem sum24 {l : List Segm} (h : ∀ x ∈ l, Segm.size x ≤ 24) : sumN Segm.size l ≤ 24 * l.length := by
  induction l with
  | nil => simp [sumN]
  | cons x l ih =>
    have h1 := h x (by simp)
    have h2 := ih (fun s hs => h s (by simp [hs]))
    simp only [sumN, List.length_cons]
    omega
theorem Good.size {p : Mani} {G : Nat → List UInt8} {f : Fetc} {r o : Nat} (g : Good p G f r o) (hG : ∀ t, (G t).length ≤ 24) : Fetc.size f ≤ 500 := by
  have h8 := vMani_len g.hv
  have h1 : sumN Segm.size f.segs ≤ 24 * f.segs.length := sum24 (fun x hx => by
    obtain ⟨i, hi, rfl⟩ := List.mem_iff_getElem.1 hx
    have := g.sg i _ (List.getElem?_eq_getElem hi)
    show (f.segs[i]).content.length ≤ 24
    rw [this]
    split
    · exact hG i
    · simp)
  have h2 := g.sl
  have h3 : Mani.size f.mani = p.dig.length := by rw [g.hm]; rfl
  unfold Fetc.size
  omega
theorem Good.rng {p : Mani} {G : Nat → List UInt8} {f : Fetc} {r o : Nat} (g : Good p G f r o) : Fetc.rng f := by
  have h8 := vMani_len g.hv
  have hr := pow256 h8 g.r1
  have ho := pow256 h8 g.o1
  have hb := vMani_b g.hv
  have h1 := g.hr
  have h2 := g.ho
  have h3 := g.w1
  have h4 := g.t1
  have h5 := g.l1
  unfold Fetc.rng Mani.rng
  rw [g.hm]
  omega
def stpF (b : List UInt8) (p : Mani) (f : Fetc) (k r : Int) : Fetc := if r = 0 then (match nxt f with | [] => f | i :: _ => mrkF f i) else if r = 1 then rcvF f k (segAt b p k) else lostF f k
theorem segAt_len2 {b : List UInt8} {p : Mani} {i : Int} (h : b.length ≤ 20) : (segAt b p i).length ≤ 20 := by
  unfold segAt
  split
  · simp only [cut, List.length_take, List.length_drop]; omega
  · simp
theorem nxt_head {f : Fetc} {i : Int} {l : List Int} (h : nxt f = i :: l) : hasI (nxt f) i = true := by rw [h]; simp [hasI]
theorem Good.stp {b : List UInt8} {p : Mani} {G : Nat → List UInt8} {f : Fetc} {r o : Nat} (g : Good p G f r o) (hG : ∀ t, t < p.dig.length → segAt b p t = G t ∧ vSeg p t (G t) = true ∧ 0 < (G t).length) (k x : Int) (hk : 0 ≤ k ∧ k < p.dig.length) : ∃ r' o', Good p G (stpF b p f k x) r' o' := by
  have h8 := vMani_len g.hv
  obtain ⟨n, rfl⟩ : ∃ n : Nat, k = n := ⟨k.toNat, by omega⟩
  unfold stpF
  split
  · split
    · exact ⟨r, o, g⟩
    · rename_i i l h
      have h2 := nxt_head h
      obtain ⟨h3, _⟩ := nxt_nn h2
      obtain ⟨j, rfl⟩ : ∃ j : Nat, i = j := ⟨i.toNat, by omega⟩
      exact ⟨_, _, (g.mrk j h2).1⟩
  · split
    · rw [(hG n (by omega)).1]
      exact ⟨_, _, g.rcv (fun t ht => (hG t ht).2) n (by omega)⟩
    · exact ⟨_, _, g.lost n (by omega)⟩
theorem sh_res {f : Nat} {args outs : List Arg} {s : Shape} {vs : List AV} (h : FO f args outs (s, vs)) : FO f args outs (s, shcL vs) := FOk.wk h (.refl _) (.refl _) ⟨rfl, .inr (WkL.refl _)⟩
theorem sh_Fetc {f : Nat} {args outs : List Arg} {x : Fetc} (h : FO f args outs (A (Fetc.c true x))) : FO f args outs (A (Fetc.c false x)) := by
  have := sh_res h
  rwa [Fetc.shc] at this
end Go.Proofs.YtoekfmkbkffciaaGreatDoor
