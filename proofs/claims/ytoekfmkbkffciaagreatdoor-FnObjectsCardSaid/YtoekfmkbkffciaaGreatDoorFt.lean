/- Contracts of functions of the program: no statement of the seat is proved here. Each under the conditions that stand in it. -/
import Derived.Test.YtoekfmkbkffciaaGreatDoorFs
set_option linter.all false
namespace Go.Proofs.YtoekfmkbkffciaaGreatDoor
open Go.Vs Go.Proofs
/-! Fetches, changed -/
/-- A slot that views a box's cell. -/
abbrev Rb (t b c : Nat) : Rs × RV := (.sl t, ((0, 0), some (.one, [.ref (.bx b) c (0, 0) []])))
theorem getAB {α β : Type} {a : α → List AV} {b : β → List AV} {d : List α} {r : List β} {x : β} {i : Int} (hi : i = (d.length : Nat)) : (d.map a ++ (x :: r).map b)[i.toNat]? = some (b x) := by
  subst hi; simp
theorem setAB {α β : Type} {a : α → List AV} {b : β → List AV} {d : List α} {r : List β} {x : β} {z : List AV} : (d.map a ++ (x :: r).map b).set d.length z = d.map a ++ z :: r.map b := by
  simp [List.set_append]
def bitL (i : Int) : Int := IntKind.wrap .i64 (1 * 2 ^ (min i.toNat (IntKind.bits .i64)))
def bOr (a b : Int) : Int := IntKind.wrap .i64 ((BitVec.ofInt (IntKind.bits .i64) a ||| BitVec.ofInt (IntKind.bits .i64) b).toNat : Int)
def bClr (a b : Int) : Int := IntKind.wrap .i64 ((BitVec.ofInt (IntKind.bits .i64) a &&& ~~~BitVec.ofInt (IntKind.bits .i64) b).toNat : Int)
theorem bitL_eq (i : Int) : IntKind.wrap .i64 (1 * 2 ^ (min i.toNat (IntKind.bits .i64))) = bitL i := rfl
theorem bOr_eq (a b : Int) : IntKind.wrap .i64 ((BitVec.ofInt (IntKind.bits .i64) a ||| BitVec.ofInt (IntKind.bits .i64) b).toNat : Int) = bOr a b := rfl
theorem bClr_eq (a b : Int) : IntKind.wrap .i64 ((BitVec.ofInt (IntKind.bits .i64) a &&& ~~~BitVec.ofInt (IntKind.bits .i64) b).toNat : Int) = bClr a b := rfl
theorem Fetc.size_dig {f : Fetc} {n : Nat} (h : Fetc.size f ≤ n) : f.mani.dig.length ≤ n := by simp only [Fetc.size, Mani.size] at h; omega
theorem Fetc.size_segs {f : Fetc} {n : Nat} (h : Fetc.size f ≤ n) : f.segs.length ≤ n := by simp only [Fetc.size, Mani.size] at h; omega
theorem Fetc.size_seg {f : Fetc} {n : Nat} {x : Segm} (h : Fetc.size f ≤ n) (hx : x ∈ f.segs) : x.content.length ≤ n := by
  have h1 : x.content.length ≤ sumN Segm.size f.segs := sumN_mem Segm.size hx
  simp only [Fetc.size, Mani.size] at h; omega
abbrev Segm.cN (s : Segm) : List AV := [.sl true .non 1 (byts s.content)]
theorem wkN (l : List Segm) : WkL (l.map Segm.cN).flatten (l.map (Segm.c true)).flatten := by
  induction l with
  | nil => exact .nil
  | cons x l ih => simp only [List.map_cons, List.flatten_cons]; exact .top ih
theorem is38 : FI 38 Tryz.f38 := ⟨⟨Tryz.f38, Tryz.func38, rfl, rfl, rfl, rfl⟩, rfl⟩
set_option maxRecDepth 20000 in
set_option maxHeartbeats 16000000 in
theorem i_copyFetcher (f : Fetc) (hz : Fetc.size f ≤ 1048576) : FO 38 [A (Fetc.c false f)] [A (Fetc.c false f)] (A (Fetc.c true f)) := by
  refine fok envOk mixed is38 ⟨rfl, rfl, ?_⟩
  have hl := Fetc.size_segs hz
  have hdl := Fetc.size_dig hz
  (repeat' ((conv => whnf); first | refine stp ?_ | refine Cl.mk (i_copyManifest f.mani hdl) ?_ | refine Cl.mk (Clone_Segm f.segs hl) ?_ | refine Cl.pre (by simp only [shcLL_ints, shcLL_byts, shcLL_strs, Fetc.shcs, Mani.shcs, Name.shcs, Segm.shcs]; rfl) ?_))
  refine Lp.mk [.bx 1, .sl 1, .bx 2, .sl 2, .sl 14, .sl 15, .sl 16] (fun m σ => ∃ d r, f.segs = d ++ r ∧ m = r.length ∧ σ = [Bx 1 ([cI f.mani.seg, cI f.mani.len, cIs true f.mani.dig, cI f.received, sl true 1 (d.map (Segm.c true) ++ r.map (Segm.c false)), cI f.outst, cI f.window, cI f.thresh, cI f.losses]), Pt 1, Bx 2 ([cI 0, cI 0, .sl true .isnil 0 [], cI 0, .sl true .isnil 0 [], cI 0, cI 0, cI 0, cI 0]), Pt 2, Rb 14 1 4, Sa 15 (I f.segs.length), Sa 16 (I d.length)]) (f.segs.length) _ (WkS.weak _ _) ⟨[], f.segs, rfl, rfl, (by first | rfl | (simp only [zlen, zsum, Nat.zero_mul, Int.add_zero, Int.sub_zero, List.nil_append, markG]; rfl))⟩ ?_
  rintro m τ ⟨d, r, hd, rfl, rfl⟩
  have hy : f.segs.length = d.length + r.length := by rw [hd]; simp
  cases r with
  | nil =>
    refine Br.neg (by simp at *; omega) ?_
    (repeat' ((conv => whnf); first | refine stp ?_ ))
    refine Vs.Fin.mk (WkR.eq ?_) (.refl _)
    simp [Fetc.c, hd]
  | cons x r =>
    simp at hy
    have hsz : x.content.length ≤ 1048576 := Fetc.size_seg hz (by rw [hd]; simp)
    refine Br.pos (by simp; omega) ?_
    (repeat' ((conv => whnf); first | refine stp ?_ | refine El.mk (getAB rfl) ?_ | refine Cl.mk (Clone_byte x.content hsz) ?_ | refine Cl.pre (by simp only [shcLL_ints, shcLL_byts, shcLL_strs, Fetc.shcs, Mani.shcs, Name.shcs, Segm.shcs]; rfl) ?_))
    refine Nx.intro r.length (by simp) _ (WkS.weak _ _) ⟨d ++ [x], r, by simp [hd], rfl, ?_⟩
    (repeat' (first | exact rfl | refine consE ?_ ?_ | refine entE ?_ | refine vI ?_ | refine vS ?_ | refine vT ?_ | refine vB ?_))
    · simp [List.set_append]; rfl
    · simp
theorem is11 : FI 11 Tryz.f11 := ⟨⟨Tryz.f11, Tryz.func11, rfl, rfl, rfl, rfl⟩, rfl⟩
set_option maxRecDepth 20000 in
set_option maxHeartbeats 16000000 in
theorem i_IsComplete (f : Fetc) (hr : Fetc.rng f) (hz : Fetc.size f ≤ 1048576) : FO 11 [A (Fetc.c false f)] [A (Fetc.c false f)] (B (vFet f && decide (f.received = allM f.mani))) := by
  refine fok envOk mixed is11 ⟨rfl, rfl, ?_⟩
  cases hv : vFet f with
  | false =>
    (repeat' ((conv => whnf); first | refine stp ?_ | refine Br.mk (fun _ => ?_) (fun _ => ?_) | refine Cl.mk (i_ValidFetcher f hr hz) ?_ | refine Cl.pre (by simp only [shcLL_ints, shcLL_byts, shcLL_strs, Fetc.shcs, Mani.shcs, Name.shcs, Segm.shcs]; rfl) ?_))
    all_goals (try (refine Vs.Fin.mk (WkR.eq ?_) (.refl _); first | rfl | (simp_all [hv]; done) | (simp_all [hv]; omega) | grind | grind [hv]))
  | true =>
    have h8 : f.mani.dig.length ≤ 8 := vMani_len (by simp [vFet] at hv; simp_all)
    (repeat' ((conv => whnf); first | refine stp ?_ | refine Br.mk (fun _ => ?_) (fun _ => ?_) | refine Cl.mk (i_ValidFetcher f hr hz) ?_ | refine Nm.mk (shl1 h8) ?_ | refine Nm.mk (shl1W h8) ?_ | refine Cl.pre (by simp only [shcLL_ints, shcLL_byts, shcLL_strs, Fetc.shcs, Mani.shcs, Name.shcs, Segm.shcs]; rfl) ?_))
    all_goals (try (refine Vs.Fin.mk (WkR.eq ?_) (.refl _); first | rfl | (simp_all [hv, allM]; done) | (simp_all [hv, allM]; omega) | grind | grind [hv, allM]))
end Go.Proofs.YtoekfmkbkffciaaGreatDoor
