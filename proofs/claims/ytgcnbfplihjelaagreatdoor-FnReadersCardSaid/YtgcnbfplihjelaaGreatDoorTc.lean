/- Contracts of functions of the program: no statement of the seat is proved here. Each under the conditions that stand in it. -/
import Derived.Test.YtgcnbfplihjelaaGreatDoorTb
import Derived.Test.YtgcnbfplihjelaaGreatDoorSb
set_option linter.all false
namespace Go.Proofs.YtgcnbfplihjelaaGreatDoor
open Go.Vs Go.Proofs
theorem draws {σ χ : Type} {P : σ → Prop} {R : σ → χ → σ → Prop} (h : ∀ s, P s → ∃ s' x, P s' ∧ R s x s') (s0 : σ) (h0 : P s0) : ∃ (C : Nat → σ) (X : Nat → χ), C 0 = s0 ∧ ∀ j, P (C j) ∧ R (C j) (X j) (C (j + 1)) := by
  have h' : ∀ s : {s // P s}, ∃ t : {s // P s} × χ, R s.1 t.2 t.1.1 := fun s => by
    obtain ⟨s', x, a, b⟩ := h s.1 s.2
    exact ⟨(⟨s', a⟩, x), b⟩
  refine ⟨fun j => (Nat.rec (motive := fun _ => {s // P s}) ⟨s0, h0⟩ (fun _ s => (Classical.choose (h' s)).1) j : {s // P s}).1, fun j => (Classical.choose (h' (Nat.rec (motive := fun _ => {s // P s}) ⟨s0, h0⟩ (fun _ s => (Classical.choose (h' s)).1) j))).2, rfl, fun j => ⟨Subtype.property _, ?_⟩⟩
  exact Classical.choose_spec (h' _)
theorem getV {α : Type} {c : α → List AV} {l : List α} {i : Int} {v : α} (h : l[i.toNat]? = some v) : (l.map c)[i.toNat]? = some (c v) := by simp [h]
theorem is62 : FI 62 Tryz.f62 := ⟨⟨Tryz.f62, Tryz.func62, rfl, rfl, rfl, rfl⟩, rfl⟩
set_option maxRecDepth 20000 in
set_option maxHeartbeats 16000000 in
theorem l1Below0 (cs : List AV) (n : Int) (hn : n ≤ 0) : FO 62 [O (.own cs), I n] [O (.own cs), I n] (I 0) := by
  refine fok envOk mixed is62 ⟨rfl, rfl, ?_⟩
  have f1 : decide (n ≤ 0) = true := by simpa using hn
  (repeat' ((conv => whnf); first | refine Br.tt ?_ | refine Br.ff ?_ | refine Br.pos (by assumption) ?_ | refine Br.neg (by assumption) ?_ | refine Br.bself ?_ | refine Br.dself ?_ | refine Br.iself ?_ | refine Nm.mk lenC ?_ | refine Nm.mk (wrapI (by (first | omega | (simp [inR_t, inR_f] at *; omega))) (by (first | omega | (simp [inR_t, inR_f] at *; omega)))) ?_ | refine Nm.mk (wrapQ (by (first | omega | (simp [inR_t, inR_f] at *; omega))) (by (first | omega | (simp [inR_t, inR_f] at *; omega))) (by (first | omega | (simp [inR_t, inR_f] at *; omega)))) ?_ | refine Nm.mk (tmodN (by (first | omega | (simp [inR_t, inR_f] at *; omega)))) ?_ | refine Nm.mk (szS _) ?_ | refine Nm.mk (mi_eq _ _) ?_ | refine Nm.mk (ma_eq _ _) ?_ | refine Rq.mk (by first | (simp [dOwnL, dOwn] <;> fail) | (first | omega | (simp [inR_t, inR_f] at *; omega))) ?_ | refine And.intro (orderFast (by kernel_rfl)) ?_ | refine And.intro (by kernel_rfl) ?_ ))
  exact Vs.Fin.mk (WkR.refl _) (.refl _)
set_option maxRecDepth 20000 in
set_option maxHeartbeats 16000000 in
theorem l1Below1 (cs cs1 : List AV) (n x : Int) (hn : 0 < n ∧ n ≤ 256) (hx : 0 ≤ x ∧ x ≤ 255) (k1 : FO 126 [O (.own cs)] [O (.own cs1)] (I x)) : FO 62 [O (.own cs), I n] [O (.own cs1), I n] (I (x % n)) := by
  refine fok envOk mixed is62 ⟨rfl, rfl, ?_⟩
  have f1 : decide (n ≤ 0) = false := by simp; omega
  have f2 : decide (n ≤ 256) = true := by simp; omega
  (repeat' ((conv => whnf); first | refine Br.tt ?_ | refine Br.ff ?_ | refine Br.pos (by assumption) ?_ | refine Br.neg (by assumption) ?_ | refine Br.bself ?_ | refine Br.dself ?_ | refine Br.iself ?_ | refine Nm.mk lenC ?_ | refine Nm.mk (wrapI (by (first | omega | (simp [inR_t, inR_f] at *; omega))) (by (first | omega | (simp [inR_t, inR_f] at *; omega)))) ?_ | refine Nm.mk (wrapQ (by (first | omega | (simp [inR_t, inR_f] at *; omega))) (by (first | omega | (simp [inR_t, inR_f] at *; omega))) (by (first | omega | (simp [inR_t, inR_f] at *; omega)))) ?_ | refine Nm.mk (tmodN (by (first | omega | (simp [inR_t, inR_f] at *; omega)))) ?_ | refine Nm.mk (szS _) ?_ | refine Nm.mk (mi_eq _ _) ?_ | refine Nm.mk (ma_eq _ _) ?_ | refine Rq.mk (by first | (simp [dOwnL, dOwn] <;> fail) | (first | omega | (simp [inR_t, inR_f] at *; omega))) ?_ | refine And.intro (orderFast (by kernel_rfl)) ?_ | refine And.intro (by kernel_rfl) ?_ | refine Cl.mk (k1) ?_ | refine Cl.pre (by simp only [shcLL_ints, shcLL_byts, shcLL_strs, Mani.shcs, Name.shcs, Segm.shcs]; rfl) ?_))
  exact Vs.Fin.mk (WkR.refl _) (.refl _)
set_option maxRecDepth 20000 in
set_option maxHeartbeats 16000000 in
theorem l1Below3 (cs cs1 cs2 cs3 : List AV) (n x y z : Int) (hn : 256 < n) (hx : 0 ≤ x ∧ x ≤ 255) (hy : 0 ≤ y ∧ y ≤ 255) (hz : 0 ≤ z ∧ z ≤ 255) (k1 : FO 126 [O (.own cs)] [O (.own cs1)] (I x)) (k2 : FO 126 [O (.own cs1)] [O (.own cs2)] (I y)) (k3 : FO 126 [O (.own cs2)] [O (.own cs3)] (I z)) : FO 62 [O (.own cs), I n] [O (.own cs3), I n] (I ((x * 65536 + y * 256 + z) % n)) := by
  refine fok envOk mixed is62 ⟨rfl, rfl, ?_⟩
  have f1 : decide (n ≤ 0) = false := by simp; omega
  have f2 : decide (n ≤ 256) = false := by simp; omega
  (repeat' ((conv => whnf); first | refine Br.tt ?_ | refine Br.ff ?_ | refine Br.pos (by assumption) ?_ | refine Br.neg (by assumption) ?_ | refine Br.bself ?_ | refine Br.dself ?_ | refine Br.iself ?_ | refine Nm.mk lenC ?_ | refine Nm.mk (wrapI (by (first | omega | (simp [inR_t, inR_f] at *; omega))) (by (first | omega | (simp [inR_t, inR_f] at *; omega)))) ?_ | refine Nm.mk (wrapQ (by (first | omega | (simp [inR_t, inR_f] at *; omega))) (by (first | omega | (simp [inR_t, inR_f] at *; omega))) (by (first | omega | (simp [inR_t, inR_f] at *; omega)))) ?_ | refine Nm.mk (tmodN (by (first | omega | (simp [inR_t, inR_f] at *; omega)))) ?_ | refine Nm.mk (szS _) ?_ | refine Nm.mk (mi_eq _ _) ?_ | refine Nm.mk (ma_eq _ _) ?_ | refine Rq.mk (by first | (simp [dOwnL, dOwn] <;> fail) | (first | omega | (simp [inR_t, inR_f] at *; omega))) ?_ | refine And.intro (orderFast (by kernel_rfl)) ?_ | refine And.intro (by kernel_rfl) ?_ | refine Cl.mk (k1) ?_ | refine Cl.mk (k2) ?_ | refine Cl.mk (k3) ?_ | refine Cl.pre (by simp only [shcLL_ints, shcLL_byts, shcLL_strs, Mani.shcs, Name.shcs, Segm.shcs]; rfl) ?_))
  exact Vs.Fin.mk (WkR.refl _) (.refl _)
theorem below_ok {cs : List AV} (hc : IsC cs) (n : Int) : ∃ cs' x, IsC cs' ∧ (0 < n → 0 ≤ x ∧ x < n) ∧ (n ≤ 0 → x = 0) ∧ FO 62 [O (.own cs), I n] [O (.own cs'), I n] (I x) := by
  by_cases h0 : n ≤ 0
  · exact ⟨cs, 0, hc, fun h => by omega, fun _ => rfl, l1Below0 cs n h0⟩
  obtain ⟨c1, x, i1, x0, x1, k1⟩ := s_l1Byte hc
  by_cases h1 : n ≤ 256
  · exact ⟨c1, x % n, i1, fun _ => ⟨Int.emod_nonneg _ (by omega), Int.emod_lt_of_pos _ (by omega)⟩, fun h => by omega, l1Below1 cs c1 n x (by omega) ⟨x0, x1⟩ k1⟩
  · obtain ⟨c2, y, i2, y0, y1, k2⟩ := s_l1Byte i1
    obtain ⟨c3, z, i3, z0, z1, k3⟩ := s_l1Byte i2
    exact ⟨c3, _, i3, fun _ => ⟨Int.emod_nonneg _ (by omega), Int.emod_lt_of_pos _ (by omega)⟩, fun h => by omega, l1Below3 cs c1 c2 c3 n x y z (by omega) ⟨x0, x1⟩ ⟨y0, y1⟩ ⟨z0, z1⟩ k1 k2 k3⟩
theorem is128 : FI 128 Tryz.f128 := ⟨⟨Tryz.f128, Tryz.func128, rfl, rfl, rfl, rfl⟩, rfl⟩
set_option maxRecDepth 20000 in
set_option maxHeartbeats 16000000 in
theorem l1Once0 (cs cs1 : List AV) (n x : Int) (k1 : FO 62 [O (.own cs), I n] [O (.own cs1), I n] (I x)) : FO 128 [O (.own cs), I n] [O (.own cs1), I n] (B (x == 0)) := by
  refine fok envOk mixed is128 ⟨rfl, rfl, ?_⟩
  (repeat' ((conv => whnf); first | refine Br.tt ?_ | refine Br.ff ?_ | refine Br.pos (by assumption) ?_ | refine Br.neg (by assumption) ?_ | refine Br.bself ?_ | refine Br.dself ?_ | refine Br.iself ?_ | refine Nm.mk lenC ?_ | refine Nm.mk (wrapI (by (first | omega | (simp [inR_t, inR_f] at *; omega))) (by (first | omega | (simp [inR_t, inR_f] at *; omega)))) ?_ | refine Nm.mk (wrapQ (by (first | omega | (simp [inR_t, inR_f] at *; omega))) (by (first | omega | (simp [inR_t, inR_f] at *; omega))) (by (first | omega | (simp [inR_t, inR_f] at *; omega)))) ?_ | refine Nm.mk (tmodN (by (first | omega | (simp [inR_t, inR_f] at *; omega)))) ?_ | refine Nm.mk (szS _) ?_ | refine Nm.mk (mi_eq _ _) ?_ | refine Nm.mk (ma_eq _ _) ?_ | refine Rq.mk (by first | (simp [dOwnL, dOwn] <;> fail) | (first | omega | (simp [inR_t, inR_f] at *; omega))) ?_ | refine And.intro (orderFast (by kernel_rfl)) ?_ | refine And.intro (by kernel_rfl) ?_ | refine Cl.mk (k1) ?_ | refine Cl.pre (by simp only [shcLL_ints, shcLL_byts, shcLL_strs, Mani.shcs, Name.shcs, Segm.shcs]; rfl) ?_))
  exact Vs.Fin.mk (WkR.refl _) (.refl _)
theorem once_ok {cs : List AV} (hc : IsC cs) (n : Int) : ∃ cs' b, IsC cs' ∧ FO 128 [O (.own cs), I n] [O (.own cs'), I n] (B b) := by
  obtain ⟨c1, x, i1, -, -, k1⟩ := below_ok hc n
  exact ⟨c1, _, i1, l1Once0 cs c1 n x k1⟩
theorem is93 : FI 93 Tryz.f93 := ⟨⟨Tryz.f93, Tryz.func93, rfl, rfl, rfl, rfl⟩, rfl⟩
set_option maxRecDepth 20000 in
set_option maxHeartbeats 16000000 in
theorem l1Int0 (cs cs1 : List AV) (l : List Int) (x v : Int) (hl : l.length ≤ 1048576) (hx : 0 ≤ x ∧ x < l.length) (hv : l[x.toNat]? = some v) (k1 : FO 62 [O (.own cs), I l.length] [O (.own cs1), I l.length] (I x)) : FO 93 [O (.own cs), Is false l] [O (.own cs1), Is false l] (I v) := by
  refine fok envOk mixed is93 ⟨rfl, rfl, ?_⟩
  (repeat' ((conv => whnf); first | refine Br.tt ?_ | refine Br.ff ?_ | refine Br.pos (by assumption) ?_ | refine Br.neg (by assumption) ?_ | refine Br.bself ?_ | refine Br.dself ?_ | refine Br.iself ?_ | refine Nm.mk lenC ?_ | refine Nm.mk (wrapI (by (first | omega | (simp [inR_t, inR_f] at *; omega))) (by (first | omega | (simp [inR_t, inR_f] at *; omega)))) ?_ | refine Nm.mk (wrapQ (by (first | omega | (simp [inR_t, inR_f] at *; omega))) (by (first | omega | (simp [inR_t, inR_f] at *; omega))) (by (first | omega | (simp [inR_t, inR_f] at *; omega)))) ?_ | refine Nm.mk (tmodN (by (first | omega | (simp [inR_t, inR_f] at *; omega)))) ?_ | refine Nm.mk (szS _) ?_ | refine Nm.mk (mi_eq _ _) ?_ | refine Nm.mk (ma_eq _ _) ?_ | refine Rq.mk (by first | (simp [dOwnL, dOwn] <;> fail) | (first | omega | (simp [inR_t, inR_f] at *; omega))) ?_ | refine And.intro (orderFast (by kernel_rfl)) ?_ | refine And.intro (by kernel_rfl) ?_ | refine Cl.mk (k1) ?_ | refine El.mk (getV hv) ?_ | refine Cl.pre (by simp only [shcLL_ints, shcLL_byts, shcLL_strs, Mani.shcs, Name.shcs, Segm.shcs]; rfl) ?_))
  exact Vs.Fin.mk (WkR.refl _) (.refl _)
theorem int_ok {cs : List AV} (hc : IsC cs) (l : List Int) (hl : l.length ≤ 1048576) (h0 : 0 < l.length) : ∃ cs' v, IsC cs' ∧ v ∈ l ∧ FO 93 [O (.own cs), Is false l] [O (.own cs'), Is false l] (I v) := by
  obtain ⟨c1, x, i1, hx, -, k1⟩ := below_ok hc l.length
  obtain ⟨hx0, hx1⟩ := hx (by omega)
  have hlt : x.toNat < l.length := by omega
  exact ⟨c1, l[x.toNat], i1, List.getElem_mem _, l1Int0 cs c1 l x _ hl ⟨hx0, hx1⟩ (List.getElem?_eq_getElem hlt) k1⟩
theorem is91 : FI 91 Tryz.f91 := ⟨⟨Tryz.f91, Tryz.func91, rfl, rfl, rfl, rfl⟩, rfl⟩
set_option maxRecDepth 20000 in
set_option maxHeartbeats 16000000 in
theorem l1Str0 (cs cs1 : List AV) (l : List ByteArray) (x : Int) (v : ByteArray) (hl : l.length ≤ 1048576) (hx : 0 ≤ x ∧ x < l.length) (hv : l[x.toNat]? = some v) (k1 : FO 62 [O (.own cs), I l.length] [O (.own cs1), I l.length] (I x)) : FO 91 [O (.own cs), Ss false l] [O (.own cs1), Ss false l] (S v) := by
  refine fok envOk mixed is91 ⟨rfl, rfl, ?_⟩
  (repeat' ((conv => whnf); first | refine Br.tt ?_ | refine Br.ff ?_ | refine Br.pos (by assumption) ?_ | refine Br.neg (by assumption) ?_ | refine Br.bself ?_ | refine Br.dself ?_ | refine Br.iself ?_ | refine Nm.mk lenC ?_ | refine Nm.mk (wrapI (by (first | omega | (simp [inR_t, inR_f] at *; omega))) (by (first | omega | (simp [inR_t, inR_f] at *; omega)))) ?_ | refine Nm.mk (wrapQ (by (first | omega | (simp [inR_t, inR_f] at *; omega))) (by (first | omega | (simp [inR_t, inR_f] at *; omega))) (by (first | omega | (simp [inR_t, inR_f] at *; omega)))) ?_ | refine Nm.mk (tmodN (by (first | omega | (simp [inR_t, inR_f] at *; omega)))) ?_ | refine Nm.mk (szS _) ?_ | refine Nm.mk (mi_eq _ _) ?_ | refine Nm.mk (ma_eq _ _) ?_ | refine Rq.mk (by first | (simp [dOwnL, dOwn] <;> fail) | (first | omega | (simp [inR_t, inR_f] at *; omega))) ?_ | refine And.intro (orderFast (by kernel_rfl)) ?_ | refine And.intro (by kernel_rfl) ?_ | refine Cl.mk (k1) ?_ | refine El.mk (getV hv) ?_ | refine Cl.pre (by simp only [shcLL_ints, shcLL_byts, shcLL_strs, Mani.shcs, Name.shcs, Segm.shcs]; rfl) ?_))
  exact Vs.Fin.mk (WkR.refl _) (.refl _)
theorem str_ok {cs : List AV} (hc : IsC cs) (l : List ByteArray) (hl : l.length ≤ 1048576) (h0 : 0 < l.length) : ∃ cs' v, IsC cs' ∧ v ∈ l ∧ FO 91 [O (.own cs), Ss false l] [O (.own cs'), Ss false l] (S v) := by
  obtain ⟨c1, x, i1, hx, -, k1⟩ := below_ok hc l.length
  obtain ⟨hx0, hx1⟩ := hx (by omega)
  have hlt : x.toNat < l.length := by omega
  exact ⟨c1, l[x.toNat], i1, List.getElem_mem _, l1Str0 cs c1 l x _ hl ⟨hx0, hx1⟩ (List.getElem?_eq_getElem hlt) k1⟩
def bT (X : Nat → Int) (j : Nat) : List UInt8 := (List.range j).map fun k => UInt8.ofNat (X k).toNat
theorem bT_succ (X : Nat → Int) (j : Nat) : bT X (j + 1) = bT X j ++ [UInt8.ofNat (X j).toNat] := by simp [bT, List.range_succ]
theorem bT_len (X : Nat → Int) (j : Nat) : (bT X j).length = j := by simp [bT]
theorem wrap8d {x : Int} (h : 0 ≤ x ∧ x ≤ 255) : IntKind.wrap .u8 x = ((UInt8.ofNat x.toNat).toNat : Int) := by
  have h1 : IntKind.wrap .u8 x = x % 256 := by unfold IntKind.wrap; simp [IntKind.signed, IntKind.bits]
  rw [h1, UInt8.toNat_ofNat']
  omega
theorem is92 : FI 92 Tryz.f92 := ⟨⟨Tryz.f92, Tryz.func92, rfl, rfl, rfl, rfl⟩, rfl⟩
set_option maxRecDepth 20000 in
set_option maxHeartbeats 16000000 in
theorem l1Bytes0 (C : Nat → List AV) (X : Nat → Int) (n : Int) (hn : n ≤ 1048576) (hX : ∀ j, 0 ≤ X j ∧ X j ≤ 255) (hk : ∀ j, FO 126 [O (.own (C j))] [O (.own (C (j + 1)))] (I (X j))) : FO 92 [O (.own (C 0)), I n] [O (.own (C n.toNat)), I n] (Ys true (bT X n.toNat)) := by
  refine fok envOk mixed is92 ⟨rfl, rfl, ?_⟩
  refine Lp.mk [.sl 0, .ex 0, .sl 1, .sl 5, .sl 6] (fun m σ => ∃ j, j + m = n.toNat ∧ σ = [Rf 0 0, Ex 0 (O (.own (C j))), Sa 1 (I n), Sa 5 (O (.sl true .non 1 (byts (bT X j)))), Sa 6 (I j)]) (n.toNat) _ (WkS.weak _ _) ⟨0, by simp, (by first | rfl | (simp only [zlen, zsum, Nat.zero_mul, Int.add_zero, Int.sub_zero, List.nil_append, markG]; rfl))⟩ ?_
  rintro m τ ⟨j, hj, rfl⟩
  have hbl := bT_len X j
  have hXj := hX j
  refine Br.dec (fun h => ?_) (fun h => ?_)
  · (repeat' ((conv => whnf); first | refine Br.tt ?_ | refine Br.ff ?_ | refine Br.pos (by assumption) ?_ | refine Br.neg (by assumption) ?_ | refine Br.bself ?_ | refine Br.dself ?_ | refine Br.iself ?_ | refine Nm.mk lenC ?_ | refine Nm.mk (wrapI (by (first | omega | (simp [inR_t, inR_f] at *; omega))) (by (first | omega | (simp [inR_t, inR_f] at *; omega)))) ?_ | refine Nm.mk (wrapQ (by (first | omega | (simp [inR_t, inR_f] at *; omega))) (by (first | omega | (simp [inR_t, inR_f] at *; omega))) (by (first | omega | (simp [inR_t, inR_f] at *; omega)))) ?_ | refine Nm.mk (tmodN (by (first | omega | (simp [inR_t, inR_f] at *; omega)))) ?_ | refine Nm.mk (szS _) ?_ | refine Nm.mk (mi_eq _ _) ?_ | refine Nm.mk (ma_eq _ _) ?_ | refine Rq.mk (by first | (simp [dOwnL, dOwn] <;> fail) | (first | omega | (simp [inR_t, inR_f] at *; omega))) ?_ | refine And.intro (orderFast (by kernel_rfl)) ?_ | refine And.intro (by kernel_rfl) ?_ | refine Cl.mk (hk j) ?_ | refine Nm.mk (wrap8d hXj) ?_ | refine Cl.pre (by simp only [shcLL_ints, shcLL_byts, shcLL_strs, Mani.shcs, Name.shcs, Segm.shcs]; rfl) ?_))
    refine Nx.intro (m - 1) (by omega) _ (WkS.weak _ _) ⟨j + 1, by omega, ?_⟩
    (repeat' (first | exact rfl | refine consE ?_ ?_ | refine entE ?_ | refine vI ?_ | refine vS ?_ | refine vT ?_ | refine vB ?_))
    rw [bT_succ]; simp
  · obtain rfl : j = n.toNat := by omega
    (repeat' ((conv => whnf); first | refine Br.tt ?_ | refine Br.ff ?_ | refine Br.pos (by assumption) ?_ | refine Br.neg (by assumption) ?_ | refine Br.bself ?_ | refine Br.dself ?_ | refine Br.iself ?_ | refine Nm.mk lenC ?_ | refine Nm.mk (wrapI (by (first | omega | (simp [inR_t, inR_f] at *; omega))) (by (first | omega | (simp [inR_t, inR_f] at *; omega)))) ?_ | refine Nm.mk (wrapQ (by (first | omega | (simp [inR_t, inR_f] at *; omega))) (by (first | omega | (simp [inR_t, inR_f] at *; omega))) (by (first | omega | (simp [inR_t, inR_f] at *; omega)))) ?_ | refine Nm.mk (tmodN (by (first | omega | (simp [inR_t, inR_f] at *; omega)))) ?_ | refine Nm.mk (szS _) ?_ | refine Nm.mk (mi_eq _ _) ?_ | refine Nm.mk (ma_eq _ _) ?_ | refine Rq.mk (by first | (simp [dOwnL, dOwn] <;> fail) | (first | omega | (simp [inR_t, inR_f] at *; omega))) ?_ | refine And.intro (orderFast (by kernel_rfl)) ?_ | refine And.intro (by kernel_rfl) ?_ ))
    exact Vs.Fin.mk (WkR.of (.sl1 rfl .nil)) (.refl _)
theorem bytes_ok {cs : List AV} (hc : IsC cs) (n : Int) (hn : n ≤ 1048576) : ∃ cs' b, IsC cs' ∧ b.length = n.toNat ∧ FO 92 [O (.own cs), I n] [O (.own cs'), I n] (Ys true b) := by
  obtain ⟨C, X, rfl, h⟩ := draws (P := IsC) (R := fun s x s' => (0 ≤ x ∧ x ≤ 255) ∧ FO 126 [O (.own s)] [O (.own s')] (I x)) (fun s hs => by
    obtain ⟨c, x, a, b, d, e⟩ := s_l1Byte hs
    exact ⟨c, x, a, ⟨b, d⟩, e⟩) cs hc
  exact ⟨_, _, (h n.toNat).1, bT_len X _, l1Bytes0 C X n hn (fun j => (h j).2.1) (fun j => (h j).2.2)⟩
end Go.Proofs.YtgcnbfplihjelaaGreatDoor
