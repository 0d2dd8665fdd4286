/- Contracts of functions of the program: no statement of the seat is proved here. Each under the conditions that stand in it. -/
import Derived.Test.YtoekfmkbkffciaaGreatDoorFd
set_option linter.all false
namespace Go.Proofs.YtoekfmkbkffciaaGreatDoor
open Go.Vs Go.Proofs
/-- The first place at which p holds; -1 where none. -/
def findI {α : Type} (p : α → Bool) : List α → Int → Int
  | [], _ => -1
  | x :: l, i => if p x then i else findI p l (i + 1)
theorem findI_none {α : Type} {p : α → Bool} {l : List α} (h : l.any p = false) (i : Int) : findI p l i = -1 := by
  induction l generalizing i with
  | nil => rfl
  | cons x l ih => simp at h; simp [findI, h.1]; exact ih (by simpa using h.2) _
theorem findI_at {α : Type} {p : α → Bool} {d r : List α} {x : α} (h : d.any p = false) (hx : p x = true) (i : Int) : findI p (d ++ x :: r) i = i + d.length := by
  induction d generalizing i with
  | nil => simp [findI, hx]
  | cons y d ih => simp at h; simp [findI, h.1]; rw [ih (by simpa using h.2)]; omega
theorem findI_ge {α : Type} {p : α → Bool} (l : List α) (i : Int) (hi : 0 ≤ i) : decide (findI p l i ≥ 0) = l.any p := by
  induction l generalizing i with
  | nil => rfl
  | cons x l ih =>
    simp only [findI, List.any_cons]
    split
    · simp_all
    · rename_i h
      rw [ih (i + 1) (by omega)]
      simp [h]

theorem is41 : FI 41 Tryz.f41 := ⟨⟨Tryz.f41, Tryz.func41, rfl, rfl, rfl, rfl⟩, rfl⟩
theorem Clone_byte (l : List UInt8) (hl : l.length ≤ 1048576) : FO 41 [O (sl false 1 (l.map (fun x : UInt8 => [cY x])))] [O (sl false 1 (l.map (fun x : UInt8 => [cY x])))] (O (sl true 1 (l.map (fun x : UInt8 => [cY x])))) := by
  refine FOk.nilSplit (fun h => ?_) ?_
  · refine fok envOk mixed is41 ⟨rfl, rfl, ?_⟩
    rw [h]
    (repeat' ((conv => whnf); first | refine stp ?_ | refine Br.mk (fun _ => ?_) (fun _ => ?_) ))
    exact ⟨WkR.of (.nils .nil), .refl _⟩
  · refine fok envOk mixed is41 ⟨rfl, rfl, ?_⟩
    refine Br.ff ?_
    refine Rq.mk (by simp; omega) ?_
    refine ⟨rfl, WkR.of (.sl1 ?_ .nil), .refl _⟩
    simp
theorem is67 : FI 67 Tryz.f67 := ⟨⟨Tryz.f67, Tryz.func67, rfl, rfl, rfl, rfl⟩, rfl⟩
theorem Clone_int (l : List Int) (hl : l.length ≤ 1048576) : FO 67 [O (sl false 1 (l.map (fun x : Int => [cI x])))] [O (sl false 1 (l.map (fun x : Int => [cI x])))] (O (sl true 1 (l.map (fun x : Int => [cI x])))) := by
  refine FOk.nilSplit (fun h => ?_) ?_
  · refine fok envOk mixed is67 ⟨rfl, rfl, ?_⟩
    rw [h]
    (repeat' ((conv => whnf); first | refine stp ?_ | refine Br.mk (fun _ => ?_) (fun _ => ?_) ))
    exact ⟨WkR.of (.nils .nil), .refl _⟩
  · refine fok envOk mixed is67 ⟨rfl, rfl, ?_⟩
    refine Br.ff ?_
    refine Rq.mk (by simp; omega) ?_
    refine ⟨rfl, WkR.of (.sl1 ?_ .nil), .refl _⟩
    simp
theorem is90 : FI 90 Tryz.f90 := ⟨⟨Tryz.f90, Tryz.func90, rfl, rfl, rfl, rfl⟩, rfl⟩
theorem Clone_string (l : List ByteArray) (hl : l.length ≤ 1048576) : FO 90 [O (sl false 1 (l.map (fun x : ByteArray => [cS x])))] [O (sl false 1 (l.map (fun x : ByteArray => [cS x])))] (O (sl true 1 (l.map (fun x : ByteArray => [cS x])))) := by
  refine FOk.nilSplit (fun h => ?_) ?_
  · refine fok envOk mixed is90 ⟨rfl, rfl, ?_⟩
    rw [h]
    (repeat' ((conv => whnf); first | refine stp ?_ | refine Br.mk (fun _ => ?_) (fun _ => ?_) ))
    exact ⟨WkR.of (.nils .nil), .refl _⟩
  · refine fok envOk mixed is90 ⟨rfl, rfl, ?_⟩
    refine Br.ff ?_
    refine Rq.mk (by simp; omega) ?_
    refine ⟨rfl, WkR.of (.sl1 ?_ .nil), .refl _⟩
    simp
theorem is68 : FI 68 Tryz.f68 := ⟨⟨Tryz.f68, Tryz.func68, rfl, rfl, rfl, rfl⟩, rfl⟩
theorem Clone_Segm (l : List Segm) (hl : l.length ≤ 1048576) : FO 68 [O (sl false 1 (l.map (Segm.c false)))] [O (sl false 1 (l.map (Segm.c false)))] (O (sl true 1 (l.map (Segm.c false)))) := by
  refine FOk.nilSplit (fun h => ?_) ?_
  · refine fok envOk mixed is68 ⟨rfl, rfl, ?_⟩
    rw [h]
    (repeat' ((conv => whnf); first | refine stp ?_ | refine Br.mk (fun _ => ?_) (fun _ => ?_) ))
    exact ⟨WkR.of (.nils .nil), .refl _⟩
  · refine fok envOk mixed is68 ⟨rfl, rfl, ?_⟩
    refine Br.ff ?_
    refine Rq.mk (by simp; omega) ?_
    refine ⟨rfl, WkR.of (.sl1 ?_ .nil), .refl _⟩
    simp
theorem is101 : FI 101 Tryz.f101 := ⟨⟨Tryz.f101, Tryz.func101, rfl, rfl, rfl, rfl⟩, rfl⟩
set_option maxRecDepth 20000 in
set_option maxHeartbeats 16000000 in
theorem IndexFunc_int {l : List Int} (hl : l.length ≤ 1099511627776) {g : Nat}  {p : Int → Bool} (hg : ∀ x ∈ l, FO g [I x] [I x] (B (p x))) : FO 101 [O (sl false 1 (l.map (fun x : Int => [cI x]))), O (.clo g [])] [O (sl false 1 (l.map (fun x : Int => [cI x]))), O (.clo g [])] (I (findI p l 0)) := by
  refine fok envOk mixed is101 ⟨rfl, rfl, ?_⟩
  refine Nm.mk lenC ?_
  refine Lp.mk [.sl 0, .sl 1, .sl 7, .sl 8] (fun m σ => ∃ d r, l = d ++ r ∧ m = r.length ∧ d.any p = false ∧ σ = [Sa 0 (O (sl false 1 (l.map (fun x : Int => [cI x])))), Sa 1 (O (.clo g [])), Sa 7 (I l.length), Sa 8 (I d.length)]) (l.length) _ (WkS.weak _ _) ⟨[], l, rfl, rfl, rfl, (by first | rfl | (simp only [zlen, zsum, Nat.zero_mul, Int.add_zero, Int.sub_zero, List.nil_append, markG]; rfl))⟩ ?_
  rintro m τ ⟨d, r, rfl, rfl, hd, rfl⟩
  cases r with
  | nil =>
    refine Br.neg (by simp) ?_
    (repeat' ((conv => whnf); first | refine stp ?_ | refine Br.mk (fun _ => ?_) (fun _ => ?_) ))
    refine Vs.Fin.mk (WkR.eq ?_) (.refl _)
    rw [findI_none (by simpa using hd)]
  | cons x r =>
    refine Br.pos (by simp; omega) ?_
    refine Rq.mk ⟨by omega, by simp; omega⟩ ?_
    refine El.mk (getA rfl) ?_
    refine Cl.mk (hg x (by simp)) ?_
    skip
    refine Br.mk (fun h => ?_) (fun h => ?_)
    · (repeat' ((conv => whnf); first | refine stp ?_ | refine Br.mk (fun _ => ?_) (fun _ => ?_) ))
      refine Vs.Fin.mk (WkR.eq ?_) (.refl _)
      rw [findI_at hd h]; simp
    · refine Nm.mk (wrapI (by omega) (by simp at hl; omega)) ?_
      refine Nx.intro r.length (by simp) _ (WkS.weak _ _) ⟨d ++ [x], r, by simp, rfl, by simp_all, ?_⟩
      rw [len1]; rfl
theorem is65 : FI 65 Tryz.f65 := ⟨⟨Tryz.f65, Tryz.func65, rfl, rfl, rfl, rfl⟩, rfl⟩
set_option maxRecDepth 20000 in
set_option maxHeartbeats 16000000 in
theorem ContainsFunc_int {l : List Int} (hl : l.length ≤ 1099511627776) {g : Nat}  {p : Int → Bool} (hg : ∀ x ∈ l, FO g [I x] [I x] (B (p x))) : FO 65 [O (sl false 1 (l.map (fun x : Int => [cI x]))), O (.clo g [])] [O (sl false 1 (l.map (fun x : Int => [cI x]))), O (.clo g [])] (B (l.any p)) := by
  refine fok envOk mixed is65 ⟨rfl, rfl, ?_⟩
  (repeat' ((conv => whnf); first | refine stp ?_ | refine Br.mk (fun _ => ?_) (fun _ => ?_) | refine Cl.mk (IndexFunc_int hl hg) ?_ | refine Cl.pre (by simp only [shcLL_ints, shcLL_byts, shcLL_strs, Mani.shcs, Name.shcs, Segm.shcs]; rfl) ?_))
  refine Vs.Fin.mk (WkR.eq ?_) (.refl _)
  rw [← findI_ge l 0 (by omega)]
theorem is122 : FI 122 Tryz.f122 := ⟨⟨Tryz.f122, Tryz.func122, rfl, rfl, rfl, rfl⟩, rfl⟩
set_option maxRecDepth 20000 in
set_option maxHeartbeats 16000000 in
theorem IndexFunc_string {l : List ByteArray} (hl : l.length ≤ 1099511627776) {g : Nat}  {p : ByteArray → Bool} (hg : ∀ x ∈ l, FO g [S x] [S x] (B (p x))) : FO 122 [O (sl false 1 (l.map (fun x : ByteArray => [cS x]))), O (.clo g [])] [O (sl false 1 (l.map (fun x : ByteArray => [cS x]))), O (.clo g [])] (I (findI p l 0)) := by
  refine fok envOk mixed is122 ⟨rfl, rfl, ?_⟩
  refine Nm.mk lenC ?_
  refine Lp.mk [.sl 0, .sl 1, .sl 7, .sl 8] (fun m σ => ∃ d r, l = d ++ r ∧ m = r.length ∧ d.any p = false ∧ σ = [Sa 0 (O (sl false 1 (l.map (fun x : ByteArray => [cS x])))), Sa 1 (O (.clo g [])), Sa 7 (I l.length), Sa 8 (I d.length)]) (l.length) _ (WkS.weak _ _) ⟨[], l, rfl, rfl, rfl, (by first | rfl | (simp only [zlen, zsum, Nat.zero_mul, Int.add_zero, Int.sub_zero, List.nil_append, markG]; rfl))⟩ ?_
  rintro m τ ⟨d, r, rfl, rfl, hd, rfl⟩
  cases r with
  | nil =>
    refine Br.neg (by simp) ?_
    (repeat' ((conv => whnf); first | refine stp ?_ | refine Br.mk (fun _ => ?_) (fun _ => ?_) ))
    refine Vs.Fin.mk (WkR.eq ?_) (.refl _)
    rw [findI_none (by simpa using hd)]
  | cons x r =>
    refine Br.pos (by simp; omega) ?_
    refine Rq.mk ⟨by omega, by simp; omega⟩ ?_
    refine El.mk (getA rfl) ?_
    refine Cl.mk (hg x (by simp)) ?_
    skip
    refine Br.mk (fun h => ?_) (fun h => ?_)
    · (repeat' ((conv => whnf); first | refine stp ?_ | refine Br.mk (fun _ => ?_) (fun _ => ?_) ))
      refine Vs.Fin.mk (WkR.eq ?_) (.refl _)
      rw [findI_at hd h]; simp
    · refine Nm.mk (wrapI (by omega) (by simp at hl; omega)) ?_
      refine Nx.intro r.length (by simp) _ (WkS.weak _ _) ⟨d ++ [x], r, by simp, rfl, by simp_all, ?_⟩
      rw [len1]; rfl
theorem is98 : FI 98 Tryz.f98 := ⟨⟨Tryz.f98, Tryz.func98, rfl, rfl, rfl, rfl⟩, rfl⟩
set_option maxRecDepth 20000 in
set_option maxHeartbeats 16000000 in
theorem ContainsFunc_string {l : List ByteArray} (hl : l.length ≤ 1099511627776) {g : Nat}  {p : ByteArray → Bool} (hg : ∀ x ∈ l, FO g [S x] [S x] (B (p x))) : FO 98 [O (sl false 1 (l.map (fun x : ByteArray => [cS x]))), O (.clo g [])] [O (sl false 1 (l.map (fun x : ByteArray => [cS x]))), O (.clo g [])] (B (l.any p)) := by
  refine fok envOk mixed is98 ⟨rfl, rfl, ?_⟩
  (repeat' ((conv => whnf); first | refine stp ?_ | refine Br.mk (fun _ => ?_) (fun _ => ?_) | refine Cl.mk (IndexFunc_string hl hg) ?_ | refine Cl.pre (by simp only [shcLL_ints, shcLL_byts, shcLL_strs, Mani.shcs, Name.shcs, Segm.shcs]; rfl) ?_))
  refine Vs.Fin.mk (WkR.eq ?_) (.refl _)
  rw [← findI_ge l 0 (by omega)]
end Go.Proofs.YtoekfmkbkffciaaGreatDoor
