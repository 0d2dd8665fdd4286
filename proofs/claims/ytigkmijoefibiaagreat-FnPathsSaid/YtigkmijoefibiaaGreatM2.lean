/- Contracts of functions of the program: no statement of the seat is proved here. Each under the conditions that stand in it. -/
import Derived.Test.YtigkmijoefibiaaGreatFr
import Derived.Test.YtigkmijoefibiaaGreatFd
import Derived.Test.YtigkmijoefibiaaGreatFl
set_option linter.all false
namespace Go.Proofs.YtigkmijoefibiaaGreat
open Go.Vs Go.Proofs
/-! Fetches that hold together -/
def allM (p : Mani) : Int := ((2 ^ p.dig.length : Nat) : Int) - 1
theorem allM_b {p : Mani} (h : p.dig.length ≤ 8) : 0 ≤ allM p ∧ allM p ≤ 255 := by
  have h1 : 2 ^ p.dig.length ≤ 2 ^ 8 := Nat.pow_le_pow_right (by omega) h
  have h2 : 0 < 2 ^ p.dig.length := Nat.pow_pos (by omega)
  unfold allM
  omega
theorem shl1 {j : Nat} (hj : j ≤ 8) : IntKind.wrap .i64 (1 * 2 ^ (min (j : Int).toNat (IntKind.bits .i64))) = ((2 ^ j : Nat) : Int) := by
  have h1 : 2 ^ j ≤ 2 ^ 8 := Nat.pow_le_pow_right (by omega) hj
  have := shl64 (a := 1) (j := j) (by omega) (by omega)
  simpa using this
theorem and64I {x y : Int} (hx : 0 ≤ x ∧ x ≤ 255) (hy : 0 ≤ y ∧ y ≤ 255) : IntKind.wrap .i64 ((BitVec.ofInt (IntKind.bits .i64) x &&& BitVec.ofInt (IntKind.bits .i64) y).toNat : Int) = ((x.toNat &&& y.toNat : Nat) : Int) := by
  have := and64 (a := x.toNat) (b := y.toNat) (by omega) (by omega)
  rw [Int.toNat_of_nonneg hx.1, Int.toNat_of_nonneg hy.1] at this
  exact this
theorem shl1W {j : Nat} (hj : j ≤ 8) : IntKind.wrap .i64 (((2 ^ j : Nat) : Int) - 1) = ((2 ^ j : Nat) : Int) - 1 := by
  have h1 : 2 ^ j ≤ 2 ^ 8 := Nat.pow_le_pow_right (by omega) hj
  have h2 : 0 < 2 ^ j := Nat.pow_pos (by omega)
  generalize 2 ^ j = z at *
  exact wrapI (by omega) (by omega)
theorem vSeg_nil {p : Mani} (h : vMani p = true) (k : Int) : vSeg p k [] = false := by
  cases hs : vSeg p k [] with
  | false => rfl
  | true =>
    exfalso
    simp only [vSeg, Bool.and_eq_true, decide_eq_true_eq, inR_t] at hs
    obtain ⟨⟨⟨-, h1, h2⟩, h3⟩, -⟩ := hs
    obtain ⟨a1, a2, a3, a4, a5⟩ := vMani_b h
    have e : cdiv p.len p.seg = (p.len + p.seg - 1) / p.seg := by
      unfold cdiv; rw [if_pos (by simp [inR_t]; omega)]
    have b1 := Int.ediv_mul_le (p.len + p.seg - 1) (b := p.seg) (by omega)
    rw [← e, ← a5] at b1
    have b2 : 0 ≤ ((p.dig.length : Int) - 1 - k) * p.seg := Int.mul_nonneg (by omega) (by omega)
    rw [Int.sub_mul, Int.sub_mul, Int.one_mul] at b2
    unfold mi at h3
    simp at h3
    split at h3 <;> omega
def ok1 (p : Mani) (r k : Int) (c : List UInt8) : Bool := if inSt r k then vSeg p k c else c.isEmpty
def okSs (p : Mani) (r : Int) : Nat → List Segm → Bool
  | _, [] => true
  | k, s :: l => ok1 p r (k : Int) s.content && okSs p r (k + 1) l
theorem okSs_no {p : Mani} {r : Int} {k : Nat} {s : Segm} {l : List Segm} (h : ok1 p r (k : Int) s.content = false) : okSs p r k (s :: l) = false := by simp [okSs, h]
theorem okSs_go {p : Mani} {r : Int} {k : Nat} {s : Segm} {l : List Segm} (h : ok1 p r (k : Int) s.content = true) : okSs p r k (s :: l) = okSs p r (k + 1) l := by simp [okSs, h]
theorem ok1_spec {p : Mani} (h : vMani p = true) {r k : Int} {c : List UInt8} : ok1 p r k c = !(!(inSt r k == decide ((c.length : Int) > 0)) || (inSt r k && !vSeg p k c)) := by
  cases c with
  | nil => cases hi : inSt r k <;> simp [ok1, hi, vSeg_nil h]
  | cons a c =>
    have h2 : decide ((((a :: c).length : Nat) : Int) > 0) = true := by simp
    rw [h2]
    cases hi : inSt r k <;> simp [ok1, hi]
def vFet (f : Fetc) : Bool := vMani f.mani && inR f.received 0 (allM f.mani) && inR f.outst 0 (allM f.mani) && decide (f.received.toNat &&& f.outst.toNat = 0) && decide (f.segs.length = f.mani.dig.length) && okSs f.mani f.received 0 f.segs && inR f.window 1 8 && inR f.thresh 1 8 && inR f.losses 0 2
/-! Fetches, changed -/
/-- A slot that views a box's cell. -/
abbrev Rb (t b c : Nat) : Rs × RV := (.sl t, ((0, 0), some (.one, [.ref (.bx b) c (0, 0) []])))
theorem getAB {α β : Type} {a : α → List AV} {b : β → List AV} {d : List α} {r : List β} {x : β} {i : Int} (hi : i = (d.length : Nat)) : (d.map a ++ (x :: r).map b)[i.toNat]? = some (b x) := by
  subst hi; simp
theorem setAB {α β : Type} {a : α → List AV} {b : β → List AV} {d : List α} {r : List β} {x : β} {z : List AV} : (d.map a ++ (x :: r).map b).set d.length z = d.map a ++ z :: r.map b := by
  simp [List.set_append]
def bitL (i : Int) : Int := IntKind.wrap .i64 (1 * 2 ^ (min i.toNat (IntKind.bits .i64)))
def bOr (a b : Int) : Int := IntKind.wrap .i64 ((BitVec.ofInt (IntKind.bits .i64) a ||| BitVec.ofInt (IntKind.bits .i64) b).toNat : Int)
def bClr (a b : Int) : Int := IntKind.wrap .i64 ((BitVec.ofInt (IntKind.bits .i64) a &&& ~~~BitVec.ofInt (IntKind.bits .i64) b).toNat : Int)
theorem bitL_eq (i : Int) : IntKind.wrap .i64 (1 * 2 ^ (min i.toNat (IntKind.bits .i64))) = bitL i := rfl
theorem bOr_eq (a b : Int) : IntKind.wrap .i64 ((BitVec.ofInt (IntKind.bits .i64) a ||| BitVec.ofInt (IntKind.bits .i64) b).toNat : Int) = bOr a b := rfl
theorem bClr_eq (a b : Int) : IntKind.wrap .i64 ((BitVec.ofInt (IntKind.bits .i64) a &&& ~~~BitVec.ofInt (IntKind.bits .i64) b).toNat : Int) = bClr a b := rfl
theorem Fetc.size_dig {f : Fetc} {n : Nat} (h : Fetc.size f ≤ n) : f.mani.dig.length ≤ n := by simp only [Fetc.size, Mani.size] at h; omega
theorem Fetc.size_segs {f : Fetc} {n : Nat} (h : Fetc.size f ≤ n) : f.segs.length ≤ n := by simp only [Fetc.size, Mani.size] at h; omega
theorem Fetc.size_seg {f : Fetc} {n : Nat} {x : Segm} (h : Fetc.size f ≤ n) (hx : x ∈ f.segs) : x.content.length ≤ n := by
  have h1 : x.content.length ≤ sumN Segm.size f.segs := sumN_mem Segm.size hx
  simp only [Fetc.size, Mani.size] at h; omega
abbrev Segm.cN (s : Segm) : List AV := [.sl true .non 1 (byts s.content)]
theorem wkN (l : List Segm) : WkL (l.map Segm.cN).flatten (l.map (Segm.c true)).flatten := by
  induction l with
  | nil => exact .nil
  | cons x l ih => simp only [List.map_cons, List.flatten_cons]; exact .top ih
def hasI (l : List Int) (x : Int) : Bool := l.any fun y => decide (y = x)
theorem is72 : FI 72 Tryz.f72 := ⟨⟨Tryz.f72, Tryz.func72, rfl, rfl, rfl, rfl⟩, rfl⟩
set_option maxRecDepth 20000 in
set_option maxHeartbeats 16000000 in
theorem s_l19Has (l : List Int) (x : Int) (hl : l.length ≤ 1099511627776) : FO 72 [Is false l, I x] [Is false l, I x] (B (hasI l x)) := by
  refine fok envOk mixed is72 ⟨rfl, rfl, ?_⟩
  refine Lp.mk [.sl 0, .sl 1, .sl 5] (fun m σ => ∃ d r, l = d ++ r ∧ m = r.length ∧ hasI d x = false ∧ σ = [Sa 0 (Is false l), Sa 1 (I x), Sa 5 (I d.length)]) (l.length) _ (WkS.weak _ _) ⟨[], l, rfl, rfl, rfl, (by first | rfl | (simp only [zlen, zsum, Nat.zero_mul, Int.add_zero, Int.sub_zero, List.nil_append, markG]; rfl))⟩ ?_
  rintro m τ ⟨d, r, rfl, rfl, hd, rfl⟩
  refine Nm.mk lenC ?_
  cases r with
  | nil =>
    refine Br.neg (by simp) ?_
    (repeat' ((conv => whnf); first | refine stp ?_ | refine Br.mk (fun _ => ?_) (fun _ => ?_) ))
    refine Vs.Fin.mk (WkR.eq ?_) (.refl _)
    simp [hd]
  | cons y r =>
    simp at hl
    refine Br.pos (by simp; omega) ?_
    refine Rq.mk ⟨by omega, by simp; omega⟩ ?_
    refine El.mk (getA rfl) ?_
    (repeat' ((conv => whnf); first | refine stp ?_ | refine Br.mk (fun _ => ?_) (fun _ => ?_) ))
    · refine Vs.Fin.mk (WkR.eq ?_) (.refl _)
      simp_all [hasI]
    · refine Nx.intro r.length (by simp) _ (WkS.weak _ _) ⟨d ++ [y], r, by simp, rfl, by simp_all [hasI], ?_⟩
      rw [len1]; rfl
theorem is168 : FI 168 Tryz.f168 := ⟨⟨Tryz.f168, Tryz.func168, rfl, rfl, rfl, rfl⟩, rfl⟩
set_option maxRecDepth 20000 in
set_option maxHeartbeats 16000000 in
theorem Index_int (l : List Int) (x : Int) (hl : l.length ≤ 1099511627776) : FO 168 [Is false l, I x] [Is false l, I x] (I (findI (fun y => decide (y = x)) l 0)) := by
  refine fok envOk mixed is168 ⟨rfl, rfl, ?_⟩
  refine Nm.mk lenC ?_
  refine Lp.mk [.sl 0, .sl 1, .sl 7, .sl 8] (fun m σ => ∃ d r, l = d ++ r ∧ m = r.length ∧ (d.any fun y => decide (y = x)) = false ∧ σ = [Sa 0 (Is false l), Sa 1 (I x), Sa 7 (I l.length), Sa 8 (I d.length)]) (l.length) _ (WkS.weak _ _) ⟨[], l, rfl, rfl, rfl, (by first | rfl | (simp only [zlen, zsum, Nat.zero_mul, Int.add_zero, Int.sub_zero, List.nil_append, markG]; rfl))⟩ ?_
  rintro m τ ⟨d, r, rfl, rfl, hd, rfl⟩
  cases r with
  | nil =>
    refine Br.neg (by simp) ?_
    (repeat' ((conv => whnf); first | refine stp ?_ | refine Br.mk (fun _ => ?_) (fun _ => ?_) ))
    refine Vs.Fin.mk (WkR.eq ?_) (.refl _)
    rw [findI_none (by simpa using hd)]
  | cons y r =>
    simp at hl
    refine Br.pos (by simp; omega) ?_
    refine Rq.mk ⟨by omega, by simp; omega⟩ ?_
    refine El.mk (getA rfl) ?_
    (conv => whnf)
    refine Br.mk (fun h => ?_) (fun h => ?_)
    · (repeat' ((conv => whnf); first | refine stp ?_ | refine Br.mk (fun _ => ?_) (fun _ => ?_) ))
      refine Vs.Fin.mk (WkR.eq ?_) (.refl _)
      rw [findI_at hd (by simp_all)]; simp
    · have hne : ¬ y = x := by rintro rfl; simp at h
      refine Nm.mk (wrapI (by omega) (by omega)) ?_
      refine Nx.intro r.length (by simp) _ (WkS.weak _ _) ⟨d ++ [y], r, by simp, rfl, by simp_all, ?_⟩
      rw [len1]; rfl
theorem is81 : FI 81 Tryz.f81 := ⟨⟨Tryz.f81, Tryz.func81, rfl, rfl, rfl, rfl⟩, rfl⟩
set_option maxRecDepth 20000 in
set_option maxHeartbeats 16000000 in
theorem Contains_int (l : List Int) (x : Int) (hl : l.length ≤ 1099511627776) : FO 81 [Is false l, I x] [Is false l, I x] (B (hasI l x)) := by
  refine fok envOk mixed is81 ⟨rfl, rfl, ?_⟩
  (repeat' ((conv => whnf); first | refine stp ?_ | refine Br.mk (fun _ => ?_) (fun _ => ?_) | refine Cl.mk (Index_int l x hl) ?_ | refine Cl.pre (by simp only [shcLL_ints, shcLL_byts, shcLL_strs, Adve.shcs, Fetc.shcs, Gran.shcs, Mani.shcs, Name.shcs, Read.shcs, Segm.shcs]; rfl) ?_))
  refine Vs.Fin.mk (WkR.eq ?_) (.refl _)
  rw [findI_ge l 0 (by omega)]; rfl
theorem nxt_nn {f : Fetc} {i : Int} (h : hasI (nxt f) i = true) : 0 ≤ i ∧ i < 8 ∧ i < f.mani.dig.length ∧ inSt f.received i = false ∧ inSt f.outst i = false := by
  simp only [hasI, List.any_eq_true, decide_eq_true_eq] at h
  obtain ⟨y, hy, rfl⟩ := h
  simp only [nxt, nxtT, List.mem_map] at hy
  obtain ⟨k, hk, rfl⟩ := hy
  have := List.mem_of_mem_take hk
  simp only [fSegs, List.mem_filter, List.mem_range] at this
  simp at this
  exact ⟨by omega, by omega, by omega, this.2.1, this.2.2⟩
theorem nxt_len (f : Fetc) : (nxt f).length ≤ 8 := by
  have := nxtT_len f (min 8 f.mani.dig.length)
  unfold nxt; omega
def mrkF (f : Fetc) (i : Int) : Fetc := if hasI (nxt f) i && decide (f.outst ≥ 0) then { f with outst := bOr f.outst (bitL i) } else f
def lostF (f : Fetc) (i : Int) : Fetc :=
  if inSt f.outst i then
    (if IntKind.wrap .i64 (f.losses + 1) ≥ 3 then { f with outst := bClr f.outst (bitL i), losses := 0, thresh := ma 1 (f.window / 2), window := ma 1 (f.window / 2) }
     else { f with outst := bClr f.outst (bitL i), losses := IntKind.wrap .i64 (f.losses + 1) })
  else f
def rcvF (f : Fetc) (i : Int) (b : List UInt8) : Fetc :=
  if inSt f.received i || !vSeg f.mani i b || decide (f.received < 0) || decide (f.outst < 0) || decide (i ≥ f.segs.length) then f
  else
    { f with segs := f.segs.set i.toNat ⟨b⟩, received := bOr f.received (bitL i), outst := bClr f.outst (bitL i), losses := 0,
             window := if decide (f.window < f.thresh) || decide (bClr f.outst (bitL i) = 0) then mi 8 (IntKind.wrap .i64 (f.window + 1)) else f.window }
theorem inSt_nn {s i : Int} (h : inSt s i = true) : 0 ≤ i ∧ i ≤ 30 ∧ 0 ≤ s := by
  simp [inSt, inR_t] at h; omega
theorem vSeg_i {p : Mani} {i : Int} {b : List UInt8} (h : vSeg p i b = true) : 0 ≤ i ∧ i < 8 ∧ i < p.dig.length := by
  have hv : vMani p = true := by simp [vSeg] at h; simp_all
  have h8 := vMani_len hv
  simp [vSeg, inR_t] at h
  omega
structure Adve where
  origin : Int
  version : Int
  nbs : List Int
  prefs : List Name
  deriving DecidableEq
abbrev Adve.c (o : Bool) (p : Adve) : List AV := [cI p.origin, cI p.version, cIs o p.nbs, sl o 1 (p.prefs.map (Name.c o))]
@[simp] theorem Adve.shc (p : Adve) : shcL (Adve.c true p) = Adve.c false p := by simp [Adve.c, shcL, Vs.shc, shcLL_ints, shcLL_byts, shcLL_strs, Name.shcs]
@[simp] theorem Adve.shcs (l : List Adve) : shcLL (l.map (Adve.c true)) = l.map (Adve.c false) := shcLL_map Adve.shc l
@[simp] theorem Adve.down (p : Adve) : dOwnL (Adve.c true p) := by simp [Adve.c, dOwnL, dOwn]
@[simp] theorem Adve.downs (l : List Adve) : dOwnLL (l.map (Adve.c true)) := dOwnLL_of Adve.down l
theorem Adve.eq_iff {p q : Adve} : p = q ↔ p.origin = q.origin ∧ p.version = q.version ∧ p.nbs = q.nbs ∧ p.prefs = q.prefs := by cases p; cases q; simp
def Adve.size (p : Adve) : Nat := p.nbs.length + (p.prefs.length + sumN Name.size p.prefs)
def Adve.fits (p : Adve) : Prop := p.nbs.length ≤ 9223372036854775807 ∧ (p.prefs.length ≤ 9223372036854775807 ∧ ∀ y ∈ p.prefs, Name.fits y)
def Adve.rng (p : Adve) : Prop := (-9223372036854775808 ≤ p.origin ∧ p.origin ≤ 9223372036854775807) ∧ (-9223372036854775808 ≤ p.version ∧ p.version ≤ 9223372036854775807)
def Adve.mkd (p : Adve) (k : Int) : Adve := ⟨k, k + 1, markG mkI one1 p.nbs (k + 1 + 1), markG Name.mkd Name.cnt p.prefs (k + 1 + 1 + (p.nbs.length : Nat))⟩
def Adve.cnt (p : Adve) : Nat := 1 + 1 + p.nbs.length + sumN Name.cnt p.prefs
def Adve.mkv (p : Adve) (k : Int) : Adve := ⟨p.origin, p.version, markG mkI one1 p.nbs (k), markG Name.mkd Name.cnt p.prefs (k + (p.nbs.length : Nat))⟩
def Adve.cntv (p : Adve) : Nat := p.nbs.length + sumN Name.cnt p.prefs
theorem Adve.cnt_le (p : Adve) : Adve.cnt p ≤ 6 * (Adve.size p + 1) := by
  have := Name.cnts_le p.prefs; simp only [Adve.cnt, Adve.size, strsSize]; omega
theorem Adve.cntv_le (p : Adve) : Adve.cntv p ≤ 6 * (Adve.size p + 1) := by
  have := Name.cnts_le p.prefs; simp only [Adve.cntv, Adve.size, strsSize]; omega
theorem Adve.cnts_le (l : List Adve) : sumN Adve.cnt l ≤ 6 * (l.length + sumN Adve.size l) := by
  induction l with
  | nil => simp [sumN]
  | cons x l ih => have := Adve.cnt_le x; simp only [sumN, List.length_cons]; omega
theorem is69 : FI 69 Tryz.f69 := ⟨⟨Tryz.f69, Tryz.func69, rfl, rfl, rfl, rfl⟩, rfl⟩
set_option maxRecDepth 20000 in
set_option maxHeartbeats 16000000 in
theorem szAdvertisement (p : Adve) (x : Int) (hx : 0 ≤ x ∧ x ≤ 1048576) (hl : Adve.fits p) : FO 69 [A (Adve.c false p), I x] [A (Adve.c false p), I x] (I (szA (Adve.size p) x)) := by
  refine fok envOk mixed is69 ⟨rfl, rfl, ?_⟩
  refine Cl.mk (szIntS p.nbs (x) hx hl.1) ?_
  (conv => whnf)
  refine Br.dec (fun h => ?_) (fun h => ?_)
  · (repeat' ((conv => whnf); first | refine stp ?_ | refine Br.mk (fun _ => ?_) (fun _ => ?_) ))
    refine Vs.Fin.mk (WkR.eq ?_) (.refl _)
    have h0 := szA_neg h (by omega)
    rw [szA_lt (n := Adve.size p) (x := x) (by simp only [Adve.size]; omega)]
  have e0 := szA_nn h (by omega)
  have s0 := szA_le e0
  refine Cl.mk (szNameS p.prefs (szA (p.nbs.length) (x)) (by omega) hl.2) ?_
  (conv => whnf)
  refine Br.dec (fun h => ?_) (fun h => ?_)
  · (repeat' ((conv => whnf); first | refine stp ?_ | refine Br.mk (fun _ => ?_) (fun _ => ?_) ))
    refine Vs.Fin.mk (WkR.eq ?_) (.refl _)
    have h0 := szA_neg h (by omega)
    rw [szA_lt (n := Adve.size p) (x := x) (by simp only [Adve.size]; omega)]
  have e1 := szA_nn h (by omega)
  have s1 := szA_le e1
  (repeat' ((conv => whnf); first | refine stp ?_ | refine Br.mk (fun _ => ?_) (fun _ => ?_) ))
  refine Vs.Fin.mk (WkR.eq ?_) (.refl _)
  refine congrArg (fun z => [cI z]) ?_
  rw [szA_le (n := Adve.size p) (x := x) (by simp only [Adve.size]; omega)]
  simp only [Adve.size]; omega
theorem is76 : FI 76 Tryz.f76 := ⟨⟨Tryz.f76, Tryz.func76, rfl, rfl, rfl, rfl⟩, rfl⟩
set_option maxRecDepth 20000 in
set_option maxHeartbeats 16000000 in
theorem toAdvertisement (p : Adve) (hl : Adve.size p ≤ 1048576) : FO 76 [A (Adve.c false p)] [A (Adve.c false p)] (A (Adve.c true p)) := by
  refine fok envOk mixed is76 ⟨rfl, rfl, ?_⟩
  (repeat' ((conv => whnf); first | refine stp ?_ | refine Br.mk (fun _ => ?_) (fun _ => ?_) | refine Cl.mk (toIntS p.nbs (by simp only [Adve.size, strsSize] at hl; omega)) ?_ | refine Cl.mk (toNameS p.prefs (by simp only [Adve.size] at hl; omega)) ?_ | refine Cl.pre (by simp only [shcLL_ints, shcLL_byts, shcLL_strs, Adve.shcs, Fetc.shcs, Gran.shcs, Mani.shcs, Name.shcs, Read.shcs, Segm.shcs]; rfl) ?_))
  all_goals (try (refine Vs.Fin.mk (WkR.eq ?_) (.refl _); first | rfl | (simp_all []; done) | (simp_all []; omega) | grind | grind []))
theorem is83 : FI 83 Tryz.f83 := ⟨⟨Tryz.f83, Tryz.func83, rfl, rfl, rfl, rfl⟩, rfl⟩
set_option maxRecDepth 20000 in
set_option maxHeartbeats 16000000 in
theorem eqAdvertisement (p q : Adve) (hp : Adve.size p ≤ 1099511627776) : FO 83 [A (Adve.c false p), A (Adve.c false q)] [A (Adve.c false p), A (Adve.c false q)] (B (decide (p = q))) := by
  refine fok envOk mixed is83 ⟨rfl, rfl, ?_⟩
  (repeat' ((conv => whnf); first | refine stp ?_ | refine Br.mk (fun _ => ?_) (fun _ => ?_) | refine Cl.mk (eqIntS p.nbs q.nbs (by simp only [Adve.size, strsSize] at hp; omega)) ?_ | refine Cl.mk (eqNameS p.prefs q.prefs (by simp only [Adve.size] at hp; omega)) ?_ | refine Cl.pre (by simp only [shcLL_ints, shcLL_byts, shcLL_strs, Adve.shcs, Fetc.shcs, Gran.shcs, Mani.shcs, Name.shcs, Read.shcs, Segm.shcs]; rfl) ?_))
  all_goals (try (refine Vs.Fin.mk (WkR.eq ?_) (.refl _); first | rfl | (simp_all [Adve.eq_iff]; done) | (simp_all [Adve.eq_iff]; omega) | grind | grind [Adve.eq_iff]))
theorem is7 : FI 7 Tryz.f7 := ⟨⟨Tryz.f7, Tryz.func7, rfl, rfl, rfl, rfl⟩, rfl⟩
set_option maxRecDepth 20000 in
set_option maxHeartbeats 16000000 in
theorem szAdvertisementS (l : List Adve) (x : Int) (hx : 0 ≤ x ∧ x ≤ 1048576) (hl : l.length ≤ 9223372036854775807 ∧ ∀ y ∈ l, Adve.fits y) : FO 7 [O (sl false 4 (l.map (Adve.c false))), I x] [O (sl false 4 (l.map (Adve.c false))), I x] (I (szA (l.length + sumN Adve.size l) x)) := by
  refine fok envOk mixed is7 ⟨rfl, rfl, ?_⟩
  refine Nm.mk lenC ?_
  have hl1 := hl.1
  refine Nm.mk (wrapI (by omega) (by omega)) ?_
  refine Br.dec (fun h => ?_) (fun h => ?_)
  · (repeat' ((conv => whnf); first | refine stp ?_ | refine Br.mk (fun _ => ?_) (fun _ => ?_) ))
    refine Vs.Fin.mk (WkR.eq ?_) (.refl _)
    rw [szA_lt (n := l.length + sumN Adve.size l) (x := x) (by omega)]
  refine Lp.mk [.sl 0, .sl 1, .sl 5] (fun m σ => ∃ d r, l = d ++ r ∧ m = r.length ∧ 0 ≤ x - l.length - sumN Adve.size d ∧ σ = [Sa 0 (O (sl false 4 (l.map (Adve.c false)))), Sa 1 (I (x - l.length - sumN Adve.size d)), Sa 5 (I d.length)]) (l.length) _ (WkS.weak _ _) ⟨[], l, rfl, rfl, by simp [sumN]; omega, (by first | rfl | (simp only [zlen, zsum, Nat.zero_mul, Int.add_zero, Int.sub_zero, List.nil_append, markG]; rfl))⟩ ?_
  rintro m τ ⟨d, r, rfl, rfl, h0, rfl⟩
  refine Nm.mk lenC ?_
  cases r with
  | nil =>
    refine Br.neg (by simp) ?_
    (repeat' ((conv => whnf); first | refine stp ?_ | refine Br.mk (fun _ => ?_) (fun _ => ?_) ))
    refine Vs.Fin.mk (WkR.eq ?_) (.refl _)
    simp only [List.append_nil] at *
    refine congrArg (fun z => [cI z]) ?_
    rw [szA_le (n := d.length + sumN Adve.size d) (x := x) (by omega)]
    omega
  | cons y r =>
    simp at hl1
    refine Br.pos (by simp; omega) ?_
    refine Rq.mk ⟨by omega, by simp; omega⟩ ?_
    refine El.mk (getA rfl) ?_
    refine Cl.mk (szAdvertisement y _ (by omega) (hl.2 y (by simp))) ?_
    (conv => whnf)
    refine Br.dec (fun h => ?_) (fun h => ?_)
    · (repeat' ((conv => whnf); first | refine stp ?_ | refine Br.mk (fun _ => ?_) (fun _ => ?_) ))
      have h3 := szA_neg h (by omega)
      refine Vs.Fin.mk (WkR.eq ?_) (.refl _)
      rw [szA_lt (n := (d ++ y :: r).length + sumN Adve.size (d ++ y :: r)) (x := x) (by rw [sumN_append]; simp only [sumN]; omega)]
    · have h3 := szA_nn h (by omega)
      have h4 := szA_le h3
      refine Nm.mk (wrapI (by omega) (by omega)) ?_
      refine Nx.intro r.length (by simp) _ (WkS.weak _ _) ⟨d ++ [y], r, by simp, rfl, by simp only [sumN_snoc, List.append_assoc, List.cons_append, List.nil_append]; omega, ?_⟩
      (repeat' (first | exact rfl | refine consE ?_ ?_ | refine entE ?_ | refine vI ?_ | refine vS ?_ | refine vT ?_ | refine vB ?_))
      · simp only [sumN_snoc, List.append_assoc, List.cons_append, List.nil_append]; omega
      · simp
theorem is11 : FI 11 Tryz.f11 := ⟨⟨Tryz.f11, Tryz.func11, rfl, rfl, rfl, rfl⟩, rfl⟩
set_option maxRecDepth 20000 in
set_option maxHeartbeats 16000000 in
theorem toAdvertisementS (l : List Adve) (hl : l.length + sumN Adve.size l ≤ 1048576) : FO 11 [O (sl false 4 (l.map (Adve.c false)))] [O (sl false 4 (l.map (Adve.c false)))] (O (sl true 4 (l.map (Adve.c true)))) := by
  refine fok envOk mixed is11 ⟨rfl, rfl, ?_⟩
  refine Nm.mk lenC ?_
  refine Rq.mk ⟨rfl, by omega, by omega, by simp; omega⟩ ?_
  refine Lp.mk [.sl 0, .sl 3, .sl 4] (fun m σ => ∃ d r, l = d ++ r ∧ m = r.length ∧ σ = [Sa 0 (O (sl false 4 (l.map (Adve.c false)))), Sa 3 (O (.sl true .non 4 (d.map (Adve.c true) ++ List.replicate m [cI 0, cI 0, .sl true .isnil 0 [], .sl true .isnil 0 []]))), Sa 4 (I d.length)]) (l.length) _ (WkS.weak _ _) ⟨[], l, rfl, rfl, (by first | rfl | (simp only [zlen, zsum, Nat.zero_mul, Int.add_zero, Int.sub_zero, List.nil_append, markG]; rfl))⟩ ?_
  rintro m τ ⟨d, r, rfl, rfl, rfl⟩
  refine Nm.mk lenC ?_
  cases r with
  | nil =>
    refine Br.neg (by simp) ?_
    refine ⟨rfl, WkR.of (.sl1 ?_ .nil), .refl _⟩
    simp
  | cons x r =>
    have hl2 := hl
    simp at hl2
    refine Br.pos (by simp; omega) ?_
    refine Rq.mk ⟨by omega, by simp; omega⟩ ?_
    refine El.mk (getA rfl) ?_
    refine Cl.mk (toAdvertisement x (by have := sumN_mem Adve.size (l := d ++ x :: r) (x := x) (by simp); omega)) ?_
    refine Rq.mk ⟨by omega, by simp; omega⟩ ?_
    refine El.mk (m := [cI 0, cI 0, .sl true .isnil 0 [], .sl true .isnil 0 []]) (by simp) ?_
    refine Nm.mk (wrapI (by omega) (by omega)) ?_
    refine Nx.intro r.length (by simp) _ (WkS.weak _ _) ⟨d ++ [x], r, by simp, rfl, ?_⟩
    rw [len1, ← setA]; rfl
theorem is16 : FI 16 Tryz.f16 := ⟨⟨Tryz.f16, Tryz.func16, rfl, rfl, rfl, rfl⟩, rfl⟩
set_option maxRecDepth 20000 in
set_option maxHeartbeats 16000000 in
theorem eqAdvertisementS (l b : List Adve) (ha : l.length + sumN Adve.size l ≤ 1099511627776) : FO 16 [O (sl false 4 (l.map (Adve.c false))), O (sl false 4 (b.map (Adve.c false)))] [O (sl false 4 (l.map (Adve.c false))), O (sl false 4 (b.map (Adve.c false)))] (B (decide (l = b))) := by
  refine fok envOk mixed is16 ⟨rfl, rfl, ?_⟩
  refine Nm.mk lenC ?_
  refine Nm.mk lenC ?_
  (conv => whnf)
  refine Br.mk (fun h => ?_) (fun h => ?_)
  · have hne : l ≠ b := by rintro rfl; simp at h
    (repeat' ((conv => whnf); first | refine stp ?_ | refine Br.mk (fun _ => ?_) (fun _ => ?_) ))
    all_goals (try (refine Vs.Fin.mk (WkR.eq ?_) (.refl _); first | rfl | (simp_all [hne]; done) | (simp_all [hne]; omega) | grind | grind [hne]))
  have hl : l.length = b.length := by simp at h; omega
  refine Lp.mk [.sl 0, .sl 1, .sl 5] (fun m σ => ∃ d r e s, l = d ++ r ∧ b = e ++ s ∧ m = r.length ∧ d = e ∧ σ = [Sa 0 (O (sl false 4 (l.map (Adve.c false)))), Sa 1 (O (sl false 4 (b.map (Adve.c false)))), Sa 5 (I d.length)]) l.length _ (WkS.weak _ _) ⟨[], l, [], b, rfl, rfl, rfl, rfl, rfl⟩ ?_
  rintro m τ ⟨d, r, e, s, rfl, rfl, rfl, rfl, rfl⟩
  refine Nm.mk lenC ?_
  cases r with
  | nil =>
    obtain rfl : s = [] := by cases s <;> simp_all
    refine Br.neg (by simp) ?_
    (repeat' ((conv => whnf); first | refine stp ?_ | refine Br.mk (fun _ => ?_) (fun _ => ?_) ))
    all_goals (try (refine Vs.Fin.mk (WkR.eq ?_) (.refl _); first | rfl | (simp_all []; done) | (simp_all []; omega) | grind | grind []))
  | cons x r =>
    obtain ⟨y, s, rfl⟩ : ∃ y s', s = y :: s' := by cases s <;> simp_all
    have ha2 := ha
    simp at ha2
    refine Br.pos (by simp; omega) ?_
    refine Rq.mk ⟨by omega, by simp; omega⟩ ?_
    refine El.mk (getA rfl) ?_
    refine Rq.mk ⟨by omega, by simp; omega⟩ ?_
    refine El.mk (getA rfl) ?_
    refine Cl.mk (eqAdvertisement x y (by have := sumN_mem Adve.size (l := d ++ x :: r) (x := x) (by simp); omega)) ?_
    (conv => whnf)
    refine And.intro (by kernel_rfl) ?_
    (conv => whnf)
    refine Br.mk (fun h => ?_) (fun h => ?_)
    · have hne : x ≠ y := by simpa using h
      (repeat' ((conv => whnf); first | refine stp ?_ | refine Br.mk (fun _ => ?_) (fun _ => ?_) ))
      all_goals (try (refine Vs.Fin.mk (WkR.eq ?_) (.refl _); first | rfl | (simp_all [hne]; done) | (simp_all [hne]; omega) | grind | grind [hne]))
    · obtain rfl : x = y := by simpa using h
      refine Nm.mk (wrapI (by omega) (by omega)) ?_
      refine Nx.intro r.length (by simp) _ (WkS.weak _ _) ⟨d ++ [x], r, d ++ [x], s, by simp, by simp, rfl, rfl, ?_⟩
      rw [len1]; rfl
theorem is19 : FI 19 Tryz.f19 := ⟨⟨Tryz.f19, Tryz.func19, rfl, rfl, rfl, rfl⟩, rfl⟩
set_option maxRecDepth 20000 in
set_option maxHeartbeats 16000000 in
theorem markAdvertisementS (l : List Adve) (k : Int) (hk : 0 ≤ k) (hb : k + (sumN Adve.cnt l : Nat) ≤ 4611686018427387904) (hl : l.length + sumN Adve.size l ≤ 4611686018427387904) : FO 19 [O (sl true 4 (l.map (Adve.c true))), I k] [O (sl true 4 ((markG Adve.mkd Adve.cnt l k).map (Adve.c true))), I k] (I (k + (sumN Adve.cnt l : Nat))) := by
  refine fok envOk mixed is19 ⟨rfl, rfl, ?_⟩
  refine Lp.mk [.sl 0, .ex 0, .sl 1, .sl 5] (fun m σ => ∃ d r, l = d ++ r ∧ m = r.length ∧ σ = [Rf 0 0, Ex 0 (O (sl true 4 ((markG Adve.mkd Adve.cnt d k ++ r).map (Adve.c true)))), Sa 1 (I (k + (sumN Adve.cnt d : Nat))), Sa 5 (I d.length)]) (l.length) _ (WkS.weak _ _) ⟨[], l, rfl, rfl, (by first | rfl | (simp only [zlen, zsum, Nat.zero_mul, Int.add_zero, Int.sub_zero, List.nil_append, markG]; rfl))⟩ ?_
  rintro m τ ⟨d, r, rfl, rfl, rfl⟩
  refine Nm.mk lenC ?_
  cases r with
  | nil =>
    refine Br.neg (by simp [markG_length]) ?_
    (repeat' ((conv => whnf); first | refine stp ?_ | refine Br.mk (fun _ => ?_) (fun _ => ?_) ))
    simp only [List.append_nil]
    exact ⟨WkR.refl _, .refl _⟩
  | cons x r =>
    rw [sumN_append] at hl; simp only [sumN] at hl; simp at hl
    rw [sumN_append] at hb
    have hc : Adve.cnt x = 1 + 1 + x.nbs.length + sumN Name.cnt x.prefs := rfl
    simp only [sumN] at hb
    refine Br.pos (by simp [markG_length]; omega) ?_
    refine Rq.mk ⟨by omega, by simp [markG_length]; omega⟩ ?_
    first | refine El.mk (getA (by simp [markG_length])) ?_ | refine El.mk (List.getElem?_set_self (by simp [markG_length])) ?_
    refine Nm.mk (wrapI (by omega) (by omega)) ?_
    refine Rq.mk ⟨by omega, by simp [markG_length]; omega⟩ ?_
    first | refine El.mk (getA (by simp [markG_length])) ?_ | refine El.mk (List.getElem?_set_self (by simp [markG_length])) ?_
    refine Nm.mk (wrapI (by omega) (by omega)) ?_
    refine Rq.mk ⟨by omega, by simp [markG_length]; omega⟩ ?_
    first | refine El.mk (getA (by simp [markG_length])) ?_ | refine El.mk (List.getElem?_set_self (by simp [markG_length])) ?_
    first | refine El.mk (getA (by simp [markG_length])) ?_ | refine El.mk (List.getElem?_set_self (by simp [markG_length])) ?_
    refine Cl.mk (markIntS x.nbs (k + (sumN Adve.cnt d : Nat) + 1 + 1) (by omega) (by omega)) ?_
    refine Rq.mk ⟨by omega, by simp [markG_length]; omega⟩ ?_
    first | refine El.mk (getA (by simp [markG_length])) ?_ | refine El.mk (List.getElem?_set_self (by simp [markG_length])) ?_
    first | refine El.mk (getA (by simp [markG_length])) ?_ | refine El.mk (List.getElem?_set_self (by simp [markG_length])) ?_
    refine Cl.mk (markNameS x.prefs (k + (sumN Adve.cnt d : Nat) + 1 + 1 + (x.nbs.length : Nat)) (by omega) (by omega) (by simp only [Adve.size] at hl; omega)) ?_
    refine Nm.mk (wrapI (by omega) (by omega)) ?_
    refine Nx.intro r.length (by simp) _ (WkS.weak _ _) ⟨d ++ [x], r, by simp, rfl, ?_⟩
    (repeat' (first | exact rfl | refine consE ?_ ?_ | refine entE ?_ | refine vI ?_ | refine vS ?_ | refine vT ?_ | refine vB ?_))
    · simp only [List.set_set]
      rw [setB (by simp [markG_length])]
      simp [markG_snoc, Adve.mkd, spliceAV]
    · rw [sumN_snoc]; omega
    · simp
structure Gran where
  name : Name
  secret : Int
  deriving DecidableEq
abbrev Gran.c (o : Bool) (p : Gran) : List AV := [cSs o p.name.parts, cI p.secret]
@[simp] theorem Gran.shc (p : Gran) : shcL (Gran.c true p) = Gran.c false p := by simp [Gran.c, shcL, Vs.shc, shcLL_ints, shcLL_byts, shcLL_strs]
@[simp] theorem Gran.shcs (l : List Gran) : shcLL (l.map (Gran.c true)) = l.map (Gran.c false) := shcLL_map Gran.shc l
@[simp] theorem Gran.down (p : Gran) : dOwnL (Gran.c true p) := by simp [Gran.c, dOwnL, dOwn]
@[simp] theorem Gran.downs (l : List Gran) : dOwnLL (l.map (Gran.c true)) := dOwnLL_of Gran.down l
theorem Gran.eq_iff {p q : Gran} : p = q ↔ p.name = q.name ∧ p.secret = q.secret := by cases p; cases q; simp
def Gran.size (p : Gran) : Nat := Name.size p.name
def Gran.fits (p : Gran) : Prop := Name.fits p.name
def Gran.rng (p : Gran) : Prop := (-9223372036854775808 ≤ p.secret ∧ p.secret ≤ 9223372036854775807)
def Gran.mkd (p : Gran) (k : Int) : Gran := ⟨⟨markG mkS one1 p.name.parts (k)⟩, k + (p.name.parts.length : Nat)⟩
def Gran.cnt (p : Gran) : Nat := p.name.parts.length + 1
def Gran.mkv (p : Gran) (k : Int) : Gran := ⟨⟨markG mkS one1 p.name.parts (k)⟩, p.secret⟩
def Gran.cntv (p : Gran) : Nat := p.name.parts.length
theorem Gran.cnt_le (p : Gran) : Gran.cnt p ≤ 5 * (Gran.size p + 1) := by
  simp only [Gran.cnt, Gran.size, strsSize, Name.size]; omega
theorem Gran.cntv_le (p : Gran) : Gran.cntv p ≤ 5 * (Gran.size p + 1) := by
  simp only [Gran.cntv, Gran.size, strsSize, Name.size]; omega
theorem Gran.cnts_le (l : List Gran) : sumN Gran.cnt l ≤ 5 * (l.length + sumN Gran.size l) := by
  induction l with
  | nil => simp [sumN]
  | cons x l ih => have := Gran.cnt_le x; simp only [sumN, List.length_cons]; omega
structure Read where
  node : Int
  name : Name
  epoch : Int
  deriving DecidableEq
abbrev Read.c (o : Bool) (p : Read) : List AV := [cI p.node, cSs o p.name.parts, cI p.epoch]
@[simp] theorem Read.shc (p : Read) : shcL (Read.c true p) = Read.c false p := by simp [Read.c, shcL, Vs.shc, shcLL_ints, shcLL_byts, shcLL_strs]
@[simp] theorem Read.shcs (l : List Read) : shcLL (l.map (Read.c true)) = l.map (Read.c false) := shcLL_map Read.shc l
@[simp] theorem Read.down (p : Read) : dOwnL (Read.c true p) := by simp [Read.c, dOwnL, dOwn]
@[simp] theorem Read.downs (l : List Read) : dOwnLL (l.map (Read.c true)) := dOwnLL_of Read.down l
theorem Read.eq_iff {p q : Read} : p = q ↔ p.node = q.node ∧ p.name = q.name ∧ p.epoch = q.epoch := by cases p; cases q; simp
def Read.size (p : Read) : Nat := Name.size p.name
def Read.fits (p : Read) : Prop := Name.fits p.name
def Read.rng (p : Read) : Prop := (-9223372036854775808 ≤ p.node ∧ p.node ≤ 9223372036854775807) ∧ (-9223372036854775808 ≤ p.epoch ∧ p.epoch ≤ 9223372036854775807)
def Read.mkd (p : Read) (k : Int) : Read := ⟨k, ⟨markG mkS one1 p.name.parts (k + 1)⟩, k + 1 + (p.name.parts.length : Nat)⟩
def Read.cnt (p : Read) : Nat := 1 + p.name.parts.length + 1
def Read.mkv (p : Read) (k : Int) : Read := ⟨p.node, ⟨markG mkS one1 p.name.parts (k)⟩, p.epoch⟩
def Read.cntv (p : Read) : Nat := p.name.parts.length
theorem Read.cnt_le (p : Read) : Read.cnt p ≤ 6 * (Read.size p + 1) := by
  simp only [Read.cnt, Read.size, strsSize, Name.size]; omega
theorem Read.cntv_le (p : Read) : Read.cntv p ≤ 6 * (Read.size p + 1) := by
  simp only [Read.cntv, Read.size, strsSize, Name.size]; omega
theorem Read.cnts_le (l : List Read) : sumN Read.cnt l ≤ 6 * (l.length + sumN Read.size l) := by
  induction l with
  | nil => simp [sumN]
  | cons x l ih => have := Read.cnt_le x; simp only [sumN, List.length_cons]; omega
theorem is116 : FI 116 Tryz.f116 := ⟨⟨Tryz.f116, Tryz.func116, rfl, rfl, rfl, rfl⟩, rfl⟩
set_option maxRecDepth 20000 in
set_option maxHeartbeats 16000000 in
theorem IndexFunc_Adve1 {l : List Adve} (hl : l.length ≤ 1099511627776) {g : Nat} {cc0 : List AV} {co0 : Nat} {p : Adve → Bool} (hg : ∀ x ∈ l, FO g [A (Adve.c false x), O (.cp cc0 co0)] [A (Adve.c false x), O (.cp cc0 co0)] (B (p x))) : FO 116 [O (sl false 4 (l.map (Adve.c false))), O (.clo g [.cp cc0 co0])] [O (sl false 4 (l.map (Adve.c false))), O (.clo g [.cp cc0 co0])] (I (findI p l 0)) := by
  refine fok envOk mixed is116 ⟨rfl, rfl, ?_⟩
  refine Nm.mk lenC ?_
  refine Lp.mk [.sl 0, .sl 1, .sl 7, .sl 8] (fun m σ => ∃ d r, l = d ++ r ∧ m = r.length ∧ d.any p = false ∧ σ = [Sa 0 (O (sl false 4 (l.map (Adve.c false)))), Sa 1 (O (.clo g [.cp cc0 co0])), Sa 7 (I l.length), Sa 8 (I d.length)]) (l.length) _ (WkS.weak _ _) ⟨[], l, rfl, rfl, rfl, (by first | rfl | (simp only [zlen, zsum, Nat.zero_mul, Int.add_zero, Int.sub_zero, List.nil_append, markG]; rfl))⟩ ?_
  rintro m τ ⟨d, r, rfl, rfl, hd, rfl⟩
  cases r with
  | nil =>
    refine Br.neg (by simp) ?_
    (repeat' ((conv => whnf); first | refine stp ?_ | refine Br.mk (fun _ => ?_) (fun _ => ?_) ))
    refine Vs.Fin.mk (WkR.eq ?_) (.refl _)
    rw [findI_none (by simpa using hd)]
  | cons x r =>
    refine Br.pos (by simp; omega) ?_
    refine Rq.mk ⟨by omega, by simp; omega⟩ ?_
    refine El.mk (getA rfl) ?_
    refine Cl.mk (hg x (by simp)) ?_
    refine Rq.mk (by simp [dOwnL, dOwn]) ?_
    refine Br.mk (fun h => ?_) (fun h => ?_)
    · (repeat' ((conv => whnf); first | refine stp ?_ | refine Br.mk (fun _ => ?_) (fun _ => ?_) ))
      refine Vs.Fin.mk (WkR.eq ?_) (.refl _)
      rw [findI_at hd h]; simp
    · refine Nm.mk (wrapI (by omega) (by simp at hl; omega)) ?_
      refine Nx.intro r.length (by simp) _ (WkS.weak _ _) ⟨d ++ [x], r, by simp, rfl, by simp_all, ?_⟩
      rw [len1]; rfl
theorem is184 : FI 184 Tryz.f184 := ⟨⟨Tryz.f184, Tryz.func184, rfl, rfl, rfl, rfl⟩, rfl⟩
set_option maxRecDepth 20000 in
set_option maxHeartbeats 16000000 in
theorem IndexFunc_Name1 {l : List Name} (hl : l.length ≤ 1099511627776) {g : Nat} {cc0 : List AV} {co0 : Nat} {p : Name → Bool} (hg : ∀ x ∈ l, FO g [A (Name.c false x), O (.cp cc0 co0)] [A (Name.c false x), O (.cp cc0 co0)] (B (p x))) : FO 184 [O (sl false 1 (l.map (Name.c false))), O (.clo g [.cp cc0 co0])] [O (sl false 1 (l.map (Name.c false))), O (.clo g [.cp cc0 co0])] (I (findI p l 0)) := by
  refine fok envOk mixed is184 ⟨rfl, rfl, ?_⟩
  refine Nm.mk lenC ?_
  refine Lp.mk [.sl 0, .sl 1, .sl 7, .sl 8] (fun m σ => ∃ d r, l = d ++ r ∧ m = r.length ∧ d.any p = false ∧ σ = [Sa 0 (O (sl false 1 (l.map (Name.c false)))), Sa 1 (O (.clo g [.cp cc0 co0])), Sa 7 (I l.length), Sa 8 (I d.length)]) (l.length) _ (WkS.weak _ _) ⟨[], l, rfl, rfl, rfl, (by first | rfl | (simp only [zlen, zsum, Nat.zero_mul, Int.add_zero, Int.sub_zero, List.nil_append, markG]; rfl))⟩ ?_
  rintro m τ ⟨d, r, rfl, rfl, hd, rfl⟩
  cases r with
  | nil =>
    refine Br.neg (by simp) ?_
    (repeat' ((conv => whnf); first | refine stp ?_ | refine Br.mk (fun _ => ?_) (fun _ => ?_) ))
    refine Vs.Fin.mk (WkR.eq ?_) (.refl _)
    rw [findI_none (by simpa using hd)]
  | cons x r =>
    refine Br.pos (by simp; omega) ?_
    refine Rq.mk ⟨by omega, by simp; omega⟩ ?_
    refine El.mk (getA rfl) ?_
    refine Cl.mk (hg x (by simp)) ?_
    refine Rq.mk (by simp [dOwnL, dOwn]) ?_
    refine Br.mk (fun h => ?_) (fun h => ?_)
    · (repeat' ((conv => whnf); first | refine stp ?_ | refine Br.mk (fun _ => ?_) (fun _ => ?_) ))
      refine Vs.Fin.mk (WkR.eq ?_) (.refl _)
      rw [findI_at hd h]; simp
    · refine Nm.mk (wrapI (by omega) (by simp at hl; omega)) ?_
      refine Nx.intro r.length (by simp) _ (WkS.weak _ _) ⟨d ++ [x], r, by simp, rfl, by simp_all, ?_⟩
      rw [len1]; rfl
theorem is106 : FI 106 Tryz.f106 := ⟨⟨Tryz.f106, Tryz.func106, rfl, rfl, rfl, rfl⟩, rfl⟩
set_option maxRecDepth 20000 in
set_option maxHeartbeats 16000000 in
theorem ContainsFunc_Name1 {l : List Name} (hl : l.length ≤ 1099511627776) {g : Nat} {cc0 : List AV} {co0 : Nat} {p : Name → Bool} (hg : ∀ x ∈ l, FO g [A (Name.c false x), O (.cp cc0 co0)] [A (Name.c false x), O (.cp cc0 co0)] (B (p x))) : FO 106 [O (sl false 1 (l.map (Name.c false))), O (.clo g [.cp cc0 co0])] [O (sl false 1 (l.map (Name.c false))), O (.clo g [.cp cc0 co0])] (B (l.any p)) := by
  refine fok envOk mixed is106 ⟨rfl, rfl, ?_⟩
  (repeat' ((conv => whnf); first | refine stp ?_ | refine Br.mk (fun _ => ?_) (fun _ => ?_) | refine Cl.mk (IndexFunc_Name1 hl hg) ?_ | refine Cl.pre (by simp only [shcLL_ints, shcLL_byts, shcLL_strs, Adve.shcs, Fetc.shcs, Gran.shcs, Mani.shcs, Name.shcs, Read.shcs, Segm.shcs]; rfl) ?_))
  refine Vs.Fin.mk (WkR.eq ?_) (.refl _)
  rw [← findI_ge l 0 (by omega)]
end Go.Proofs.YtigkmijoefibiaaGreat
