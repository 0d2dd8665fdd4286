/- Contracts of functions of the program: no statement of the seat is proved here. Each under the conditions that stand in it. -/
import Derived.Test.YtigkmijoefibiaaGreatTb
import Derived.Test.YtigkmijoefibiaaGreatSb
set_option linter.all false
namespace Go.Proofs.YtigkmijoefibiaaGreat
open Go.Vs Go.Proofs
theorem draws {σ χ : Type} {P : σ → Prop} {R : σ → χ → σ → Prop} (h : ∀ s, P s → ∃ s' x, P s' ∧ R s x s') (s0 : σ) (h0 : P s0) : ∃ (C : Nat → σ) (X : Nat → χ), C 0 = s0 ∧ ∀ j, P (C j) ∧ R (C j) (X j) (C (j + 1)) := by
  have h' : ∀ s : {s // P s}, ∃ t : {s // P s} × χ, R s.1 t.2 t.1.1 := fun s => by
    obtain ⟨s', x, a, b⟩ := h s.1 s.2
    exact ⟨(⟨s', a⟩, x), b⟩
  refine ⟨fun j => (Nat.rec (motive := fun _ => {s // P s}) ⟨s0, h0⟩ (fun _ s => (Classical.choose (h' s)).1) j : {s // P s}).1, fun j => (Classical.choose (h' (Nat.rec (motive := fun _ => {s // P s}) ⟨s0, h0⟩ (fun _ s => (Classical.choose (h' s)).1) j))).2, rfl, fun j => ⟨Subtype.property _, ?_⟩⟩
  exact Classical.choose_spec (h' _)
theorem getV {α : Type} {c : α → List AV} {l : List α} {i : Int} {v : α} (h : l[i.toNat]? = some v) : (l.map c)[i.toNat]? = some (c v) := by simp [h]
theorem is90 : FI 90 Tryz.f90 := ⟨⟨Tryz.f90, Tryz.func90, rfl, rfl, rfl, rfl⟩, rfl⟩
set_option maxRecDepth 20000 in
set_option maxHeartbeats 16000000 in
theorem l1Below0 (cs : List AV) (n : Int) (hn : n ≤ 0) : FO 90 [O (.own cs), I n] [O (.own cs), I n] (I 0) := by
  refine fok envOk mixed is90 ⟨rfl, rfl, ?_⟩
  have f1 : decide (n ≤ 0) = true := by simpa using hn
  (repeat' ((conv => whnf); first | refine stp ?_ ))
  exact Vs.Fin.mk (WkR.refl _) (.refl _)
set_option maxRecDepth 20000 in
set_option maxHeartbeats 16000000 in
theorem l1Below1 (cs cs1 : List AV) (n x : Int) (hn : 0 < n ∧ n ≤ 256) (hx : 0 ≤ x ∧ x ≤ 255) (k1 : FO 173 [O (.own cs)] [O (.own cs1)] (I x)) : FO 90 [O (.own cs), I n] [O (.own cs1), I n] (I (x % n)) := by
  refine fok envOk mixed is90 ⟨rfl, rfl, ?_⟩
  have f1 : decide (n ≤ 0) = false := by simp; omega
  have f2 : decide (n ≤ 256) = true := by simp; omega
  (repeat' ((conv => whnf); first | refine stp ?_ | refine Cl.mk (k1) ?_ | refine Cl.pre (by simp only [shcLL_ints, shcLL_byts, shcLL_strs, Mani.shcs, Name.shcs, Segm.shcs]; rfl) ?_))
  exact Vs.Fin.mk (WkR.refl _) (.refl _)
set_option maxRecDepth 20000 in
set_option maxHeartbeats 16000000 in
theorem l1Below3 (cs cs1 cs2 cs3 : List AV) (n x y z : Int) (hn : 256 < n) (hx : 0 ≤ x ∧ x ≤ 255) (hy : 0 ≤ y ∧ y ≤ 255) (hz : 0 ≤ z ∧ z ≤ 255) (k1 : FO 173 [O (.own cs)] [O (.own cs1)] (I x)) (k2 : FO 173 [O (.own cs1)] [O (.own cs2)] (I y)) (k3 : FO 173 [O (.own cs2)] [O (.own cs3)] (I z)) : FO 90 [O (.own cs), I n] [O (.own cs3), I n] (I ((x * 65536 + y * 256 + z) % n)) := by
  refine fok envOk mixed is90 ⟨rfl, rfl, ?_⟩
  have f1 : decide (n ≤ 0) = false := by simp; omega
  have f2 : decide (n ≤ 256) = false := by simp; omega
  (repeat' ((conv => whnf); first | refine stp ?_ | refine Cl.mk (k1) ?_ | refine Cl.mk (k2) ?_ | refine Cl.mk (k3) ?_ | refine Cl.pre (by simp only [shcLL_ints, shcLL_byts, shcLL_strs, Mani.shcs, Name.shcs, Segm.shcs]; rfl) ?_))
  exact Vs.Fin.mk (WkR.refl _) (.refl _)
theorem below_ok {cs : List AV} (hc : IsC cs) (n : Int) : ∃ cs' x, IsC cs' ∧ (0 < n → 0 ≤ x ∧ x < n) ∧ (n ≤ 0 → x = 0) ∧ FO 90 [O (.own cs), I n] [O (.own cs'), I n] (I x) := by
  by_cases h0 : n ≤ 0
  · exact ⟨cs, 0, hc, fun h => by omega, fun _ => rfl, l1Below0 cs n h0⟩
  obtain ⟨c1, x, i1, x0, x1, k1⟩ := s_l1Byte hc
  by_cases h1 : n ≤ 256
  · exact ⟨c1, x % n, i1, fun _ => ⟨Int.emod_nonneg _ (by omega), Int.emod_lt_of_pos _ (by omega)⟩, fun h => by omega, l1Below1 cs c1 n x (by omega) ⟨x0, x1⟩ k1⟩
  · obtain ⟨c2, y, i2, y0, y1, k2⟩ := s_l1Byte i1
    obtain ⟨c3, z, i3, z0, z1, k3⟩ := s_l1Byte i2
    exact ⟨c3, _, i3, fun _ => ⟨Int.emod_nonneg _ (by omega), Int.emod_lt_of_pos _ (by omega)⟩, fun h => by omega, l1Below3 cs c1 c2 c3 n x y z (by omega) ⟨x0, x1⟩ ⟨y0, y1⟩ ⟨z0, z1⟩ k1 k2 k3⟩
theorem is133 : FI 133 Tryz.f133 := ⟨⟨Tryz.f133, Tryz.func133, rfl, rfl, rfl, rfl⟩, rfl⟩
set_option maxRecDepth 20000 in
set_option maxHeartbeats 16000000 in
theorem l1Once0 (cs cs1 : List AV) (n x : Int) (k1 : FO 90 [O (.own cs), I n] [O (.own cs1), I n] (I x)) : FO 133 [O (.own cs), I n] [O (.own cs1), I n] (B (x == 0)) := by
  refine fok envOk mixed is133 ⟨rfl, rfl, ?_⟩
  (repeat' ((conv => whnf); first | refine stp ?_ | refine Cl.mk (k1) ?_ | refine Cl.pre (by simp only [shcLL_ints, shcLL_byts, shcLL_strs, Mani.shcs, Name.shcs, Segm.shcs]; rfl) ?_))
  exact Vs.Fin.mk (WkR.refl _) (.refl _)
theorem once_ok {cs : List AV} (hc : IsC cs) (n : Int) : ∃ cs' b, IsC cs' ∧ FO 133 [O (.own cs), I n] [O (.own cs'), I n] (B b) := by
  obtain ⟨c1, x, i1, -, -, k1⟩ := below_ok hc n
  exact ⟨c1, _, i1, l1Once0 cs c1 n x k1⟩
theorem is132 : FI 132 Tryz.f132 := ⟨⟨Tryz.f132, Tryz.func132, rfl, rfl, rfl, rfl⟩, rfl⟩
set_option maxRecDepth 20000 in
set_option maxHeartbeats 16000000 in
theorem l1Int0 (cs cs1 : List AV) (l : List Int) (x v : Int) (hl : l.length ≤ 1048576) (hx : 0 ≤ x ∧ x < l.length) (hv : l[x.toNat]? = some v) (k1 : FO 90 [O (.own cs), I l.length] [O (.own cs1), I l.length] (I x)) : FO 132 [O (.own cs), Is false l] [O (.own cs1), Is false l] (I v) := by
  refine fok envOk mixed is132 ⟨rfl, rfl, ?_⟩
  (repeat' ((conv => whnf); first | refine stp ?_ | refine Cl.mk (k1) ?_ | refine El.mk (getV hv) ?_ | refine Cl.pre (by simp only [shcLL_ints, shcLL_byts, shcLL_strs, Mani.shcs, Name.shcs, Segm.shcs]; rfl) ?_))
  exact Vs.Fin.mk (WkR.refl _) (.refl _)
theorem int_ok {cs : List AV} (hc : IsC cs) (l : List Int) (hl : l.length ≤ 1048576) (h0 : 0 < l.length) : ∃ cs' v, IsC cs' ∧ v ∈ l ∧ FO 132 [O (.own cs), Is false l] [O (.own cs'), Is false l] (I v) := by
  obtain ⟨c1, x, i1, hx, -, k1⟩ := below_ok hc l.length
  obtain ⟨hx0, hx1⟩ := hx (by omega)
  have hlt : x.toNat < l.length := by omega
  exact ⟨c1, l[x.toNat], i1, List.getElem_mem _, l1Int0 cs c1 l x _ hl ⟨hx0, hx1⟩ (List.getElem?_eq_getElem hlt) k1⟩
theorem is175 : FI 175 Tryz.f175 := ⟨⟨Tryz.f175, Tryz.func175, rfl, rfl, rfl, rfl⟩, rfl⟩
set_option maxRecDepth 20000 in
set_option maxHeartbeats 16000000 in
theorem l1Str0 (cs cs1 : List AV) (l : List ByteArray) (x : Int) (v : ByteArray) (hl : l.length ≤ 1048576) (hx : 0 ≤ x ∧ x < l.length) (hv : l[x.toNat]? = some v) (k1 : FO 90 [O (.own cs), I l.length] [O (.own cs1), I l.length] (I x)) : FO 175 [O (.own cs), Ss false l] [O (.own cs1), Ss false l] (S v) := by
  refine fok envOk mixed is175 ⟨rfl, rfl, ?_⟩
  (repeat' ((conv => whnf); first | refine stp ?_ | refine Cl.mk (k1) ?_ | refine El.mk (getV hv) ?_ | refine Cl.pre (by simp only [shcLL_ints, shcLL_byts, shcLL_strs, Mani.shcs, Name.shcs, Segm.shcs]; rfl) ?_))
  exact Vs.Fin.mk (WkR.refl _) (.refl _)
theorem str_ok {cs : List AV} (hc : IsC cs) (l : List ByteArray) (hl : l.length ≤ 1048576) (h0 : 0 < l.length) : ∃ cs' v, IsC cs' ∧ v ∈ l ∧ FO 175 [O (.own cs), Ss false l] [O (.own cs'), Ss false l] (S v) := by
  obtain ⟨c1, x, i1, hx, -, k1⟩ := below_ok hc l.length
  obtain ⟨hx0, hx1⟩ := hx (by omega)
  have hlt : x.toNat < l.length := by omega
  exact ⟨c1, l[x.toNat], i1, List.getElem_mem _, l1Str0 cs c1 l x _ hl ⟨hx0, hx1⟩ (List.getElem?_eq_getElem hlt) k1⟩
def bT (X : Nat → Int) (j : Nat) : List UInt8 := (List.range j).map fun k => UInt8.ofNat (X k).toNat
theorem bT_succ (X : Nat → Int) (j : Nat) : bT X (j + 1) = bT X j ++ [UInt8.ofNat (X j).toNat] := by simp [bT, List.range_succ]
theorem bT_len (X : Nat → Int) (j : Nat) : (bT X j).length = j := by simp [bT]
theorem wrap8d {x : Int} (h : 0 ≤ x ∧ x ≤ 255) : IntKind.wrap .u8 x = ((UInt8.ofNat x.toNat).toNat : Int) := by
  have h1 : IntKind.wrap .u8 x = x % 256 := by unfold IntKind.wrap; simp [IntKind.signed, IntKind.bits]
  rw [h1, UInt8.toNat_ofNat']
  omega
end Go.Proofs.YtigkmijoefibiaaGreat
