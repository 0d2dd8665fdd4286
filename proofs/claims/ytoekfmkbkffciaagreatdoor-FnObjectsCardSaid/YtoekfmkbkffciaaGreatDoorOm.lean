/- Contracts of functions of the program: no statement of the seat is proved here. Each under the conditions that stand in it. -/
import Derived.Test.YtoekfmkbkffciaaGreatDoorOk
import Derived.Test.YtoekfmkbkffciaaGreatDoorOe
import Derived.Test.YtoekfmkbkffciaaGreatDoorM13
set_option linter.all false
namespace Go.Proofs.YtoekfmkbkffciaaGreatDoor
open Go.Vs Go.Proofs
/-! What is published under '/a/long' by the key '/a/key' -/
def sLong : ByteArray := ⟨#[108, 111, 110, 103]⟩
def kA : Name := ⟨[sLa, sKk]⟩
def nL : Name := ⟨[sLa, sLong]⟩
theorem kA_sec : secOf K4 kA = 101 := by decide +kernel
theorem kA_v : vName kA = true := by decide +kernel
theorem K4_v : vKeys K4 = true := by decide +kernel
theorem nL_plan : vName ⟨nL.parts ++ [plan]⟩ = true := by decide +kernel
theorem nL_seg : ∀ i : Fin 8, segO nL (i.val : Int) = true := by decide +kernel
theorem al_plan : rulOk ⟨qAll, qKey⟩ (apZero nL plan) kA = true := by decide +kernel
theorem al_seg : ∀ i : Fin 8, rulOk ⟨qAll, qKey⟩ (segN nL (i.val : Int)) kA = true := by decide +kernel
theorem encs_le (l : List Int) : (encs l).length ≤ 6 * l.length := by
  induction l with
  | nil => simp [encs]
  | cons x l ih =>
    have := evi_len x
    simp only [encs, List.flatMap_cons, List.length_append, List.length_cons] at ih ⊢
    omega
theorem swk_ok {m : Name} {c : List UInt8} (h1 : vName m = true) (h2 : 0 < m.parts.length) (h3 : c.length ≤ 60) : swkO K4 kA m c 400 = true := by
  have h := mac_b (secOf K4 kA) (sPort ⟨m, c, kA, 400, 0⟩)
  have e : vData (swk K4 kA m c 400) = (vName m && decide (0 < m.parts.length) && decide (c.length ≤ 60) && vName kA && inR 400 0 100000 && inR (mac (secOf K4 kA) (sPort ⟨m, c, kA, 400, 0⟩)) 0 2147483646) := rfl
  have e2 : inR (mac (secOf K4 kA) (sPort ⟨m, c, kA, 400, 0⟩)) 0 2147483646 = true := inR_t.2 (by omega)
  rw [swkO, e, e2, h1, kA_v, decide_eq_true h2, decide_eq_true h3, kA_sec]
  rfl
/-- A datum as it is published. -/
structure Pub (m : Name) (c : List UInt8) (x : Data) : Prop where
  n : x.name = m
  c : x.content = c
  k : x.keyName = kA
  v : vData x = true
  s : verS K4 x = true
theorem pub_ok {m : Name} {c : List UInt8} (h1 : vName m = true) (h2 : 0 < m.parts.length) (h3 : c.length ≤ 60) : Pub m c (swkR K4 kA m c 400) := by
  have h := swk_ok h1 h2 h3
  obtain ⟨e, hv⟩ := swk_yes h
  rw [e]
  refine ⟨rfl, rfl, rfl, ?_, hv K4_v⟩
  simp only [swkO, Bool.and_eq_true] at h
  exact h.2
theorem Pub.sz {m : Name} {c : List UInt8} {x : Data} (h : Pub m c x) (hm : strsSize m.parts ≤ 1048576) (hc : c.length ≤ 1048576) : x.sz := by
  refine ⟨by rw [h.n]; exact hm, by rw [h.c]; exact hc, ?_⟩
  rw [h.k]
  have : strsSize kA.parts ≤ 54 := vName_bound kA_v
  omega
theorem Pub.okd {m : Name} {c : List UInt8} {x : Data} (h : Pub m c x) (C : List Data) (hr : rulOk ⟨qAll, qKey⟩ m kA = true) : okD (T4 C) x = true := by
  have e : okD (T4 C) x = (verS K4 x && (rulOk ⟨qKey, qA⟩ x.name x.keyName || (rulOk ⟨qAll, qKey⟩ x.name x.keyName || false))) := rfl
  rw [e, h.s, h.n, h.k, hr]
  simp
theorem tr_eq {t : Tru} {x y : Data} {now : Int} (hx : okD t x = true) (hy : okD t y = true) (hk : x.keyName = y.keyName) (vx : vData x = true) (vy : vData y = true) : trusted t x now = trusted t y now := by
  unfold trusted
  rw [vx, vy, tcN, tcN, if_pos hx, if_pos hy, hk]
theorem T4_ok {C : List Data} (h : C.length ≤ 2) (hz : ∀ y ∈ C, y.sz) : (T4 C).ok := by
  refine ⟨K4_sz, by simp [T4], ?_, by simp [T4], ?_, by show C.length ≤ 1000; omega, hz⟩
  · intro r hr
    simp only [T4, List.mem_cons, List.not_mem_nil, or_false] at hr
    rcases hr with rfl | rfl
    · exact ⟨q_sz.1, q_sz.2.2⟩
    · exact ⟨q_sz.2.1, q_sz.1⟩
  · intro a ha
    simp only [T4, List.mem_cons, List.not_mem_nil, or_false] at ha
    subst ha
    have := pN_sz sKeyA
    omega
theorem obj_facts {b : List UInt8} {size : Int} (hb : b.length < 24) (hs : 3 ≤ size ∧ size ≤ 8) (C : List Data) : ∃ (p : Mani) (G : Nat → List UInt8) (L : List Data) (X : Data) (tr : Bool), pubB K4 kA nL b (mkMani b size) 400 = true ∧ pubR K4 kA nL b (mkMani b size) 400 = L ∧ vMani p = true ∧ p.dig.length ≤ 8 ∧ L.length = p.dig.length + 1 ∧ (∀ x ∈ L, x.sz ∧ trusted (T4 C) x 50 = tr) ∧
    L[0]? = some X ∧ X.content = encs (p.seg :: p.len :: p.dig) ∧ X.content.length ≤ 60 ∧ (∀ i, i < p.dig.length → ∃ y, L[i + 1]? = some y ∧ y.content = G i) ∧ (∀ t, t < p.dig.length → vSeg p t (G t) = true ∧ 0 < (G t).length) ∧ (∀ t, (G t).length ≤ 24) ∧ (List.range p.dig.length).flatMap G = b := by
  obtain ⟨p, G, hp, hv, h8, hG, hGl, hfl⟩ := plan_facts2 b size hb (by omega)
  rw [hp]
  have hseg : p.seg ≠ 0 := by have := vMani_b hv; omega
  have hel : (encM p).length ≤ 60 := by
    have := encs_le (p.seg :: p.len :: p.dig)
    rw [encM, if_pos hv]
    simp only [List.length_cons] at this
    omega
  have e0 : apZero nL plan = ⟨nL.parts ++ [plan]⟩ := by rw [apZero, if_pos nL_plan]
  have n0 : vName (apZero nL plan) = true := by rw [e0]; exact nL_plan
  have l0 : 0 < (apZero nL plan).parts.length := by rw [e0]; simp
  have P0 := pub_ok (m := apZero nL plan) (c := encM p) n0 l0 hel
  have hsg : ∀ i, i < p.dig.length → segO nL (i : Int) = true ∧ vName (segN nL (i : Int)) = true ∧ 0 < (segN nL (i : Int)).parts.length ∧ rulOk ⟨qAll, qKey⟩ (segN nL (i : Int)) kA = true := by
    intro i hi
    have h1 := nL_seg ⟨i, by omega⟩
    have h2 := al_seg ⟨i, by omega⟩
    have h3 : segN nL (i : Int) = ⟨nL.parts ++ [segT i]⟩ := by rw [segN, if_pos h1]
    refine ⟨h1, ?_, ?_, h2⟩
    · rw [h3]; simp only [segO, Bool.and_eq_true] at h1; exact h1.2
    · rw [h3]; simp
  have hPi : ∀ i, i < p.dig.length → Pub (segN nL i) (G i) (pubI K4 kA nL b p 400 i) := by
    intro i hi
    obtain ⟨h1, h2, h3, h4⟩ := hsg i hi
    have := hGl i
    rw [pubI, (hG i hi).1]
    exact pub_ok h2 h3 (by omega)
  have q0 : pub0 K4 kA nL p 400 = true := by
    simp only [pub0, Bool.and_eq_true, Bool.not_eq_true', decide_eq_false_iff_not]
    exact ⟨⟨hseg, nL_plan⟩, swk_ok n0 l0 hel⟩
  have qi : ∀ i, i < p.dig.length → pubO K4 kA nL b p 400 i = true := by
    intro i hi
    obtain ⟨h1, h2, h3, h4⟩ := hsg i hi
    have := hGl i
    simp only [pubO, Bool.and_eq_true]
    exact ⟨h1, swk_ok h2 h3 (by rw [(hG i hi).1]; omega)⟩
  obtain ⟨r1, r2⟩ := pubR_yes (b := b) q0 qi
  have hok0 := P0.okd C al_plan
  have z1 : strsSize (apZero nL plan).parts ≤ 1048576 := by have := @apZero_sz nL plan; omega
  refine ⟨p, G, _, swkR K4 kA (apZero nL plan) (encM p) 400, trusted (T4 C) (swkR K4 kA (apZero nL plan) (encM p) 400) 50, r1, r2, hv, h8, by rw [pubL_len], ?_, rfl, ?_, ?_, ?_, fun t ht => (hG t ht).2, hGl, hfl⟩
  · intro x hx
    rw [pubL] at hx
    rcases List.mem_cons.1 hx with rfl | hx
    · exact ⟨P0.sz z1 (by omega), rfl⟩
    · obtain ⟨i, hi, rfl⟩ := List.mem_map.1 hx
      have hi : i < p.dig.length := by simpa using hi
      have hp2 := hPi i hi
      obtain ⟨h1, h2, h3, h4⟩ := hsg i hi
      have := hGl i
      have z2 : strsSize (segN nL i).parts ≤ 1048576 := by have := @segN_sz nL i; omega
      exact ⟨hp2.sz z2 (by omega), tr_eq (hp2.okd C h4) hok0 (hp2.k.trans P0.k.symm) hp2.v P0.v⟩
  · rw [P0.c, encM, if_pos hv]
  · rw [P0.c]; exact hel
  · intro i hi
    refine ⟨pubI K4 kA nL b p 400 i, ?_, (hPi i hi).c⟩
    simp [pubL, hi]
end Go.Proofs.YtoekfmkbkffciaaGreatDoor
