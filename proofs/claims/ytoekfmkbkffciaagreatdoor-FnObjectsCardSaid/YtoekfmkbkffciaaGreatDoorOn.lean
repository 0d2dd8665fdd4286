/- Contracts of functions of the program: no statement of the seat is proved here. Each under the conditions that stand in it. -/
import Derived.Test.YtoekfmkbkffciaaGreatDoorOm
import Derived.Test.YtoekfmkbkffciaaGreatDoorM10
set_option linter.all false
namespace Go.Proofs.YtoekfmkbkffciaaGreatDoor
open Go.Vs Go.Proofs
theorem reass_gd {p : Mani} {G : Nat → List UInt8} {f : Fetc} {r o : Nat} (g : Good p G f r o) (h : ∀ k, k < p.dig.length → r.testBit k = true) : reass f.segs = (List.range p.dig.length).flatMap G := by
  have key : ∀ (l : List Segm) (k : Nat), (∀ i s, l[i]? = some s → s.content = G (k + i)) → reass l = ((List.range l.length).map fun i => G (k + i)).flatten := by
    intro l
    induction l with
    | nil => intro k _; rfl
    | cons x l ih =>
      intro k hk
      have h0 := hk 0 x rfl
      have h1 := ih (k + 1) (fun i s hi => by
        rw [hk (i + 1) s (by simpa using hi)]
        congr 1; omega)
      have h2 : reass (x :: l) = x.content ++ reass l := by simp [reass]
      rw [h2, h1, h0, List.length_cons, List.range_succ_eq_map]
      simp only [List.map_cons, List.flatten_cons, List.map_map, Nat.add_zero]
      congr 2
      apply List.map_congr_left
      intro i _
      show G (k + 1 + i) = G (k + (i + 1))
      congr 1; omega
  rw [key f.segs 0 (fun i s hi => by
    have hi2 : i < p.dig.length := by rw [← g.sl]; exact (List.getElem?_eq_some_iff.1 hi).1
    rw [g.sg i s hi, h i hi2]; simp), g.sl]
  simp [List.flatMap]
theorem Good.mark {p : Mani} {G : Nat → List UInt8} {f : Fetc} {r o : Nat} (g : Good p G f r o) (i : Int) : ∃ o', Good p G (mrkF f i) r o' := by
  by_cases h : hasI (nxt f) i = true
  · obtain ⟨h0, _⟩ := nxt_nn h
    obtain ⟨j, rfl⟩ : ∃ j : Nat, i = j := ⟨i.toNat, by omega⟩
    exact ⟨_, (g.mrk j h).1⟩
  · refine ⟨o, ?_⟩
    unfold mrkF
    rw [if_neg (by simp [h])]
    exact g
theorem Good.nxt_in {p : Mani} {G : Nat → List UInt8} {f : Fetc} {r o : Nat} (g : Good p G f r o) : ∀ i ∈ nxt f, ∃ j : Nat, i = j ∧ j < p.dig.length := by
  intro i hi
  have h : hasI (nxt f) i = true := by simp only [hasI, List.any_eq_true, decide_eq_true_eq]; exact ⟨i, hi, rfl⟩
  obtain ⟨h0, _, h2, _⟩ := nxt_nn h
  rw [g.hm] at h2
  exact ⟨i.toNat, by omega, by omega⟩
theorem sh_Iz {f : Nat} {args outs : List Arg} {x : List Int} (h : FO f args outs (Is true x)) : FO f args outs (Is false x) := by
  have := sh_res h
  rwa [show shcL [cIs true x] = [cIs false x] by simp [shcL, Vs.shc, shcLL_ints]] at this
abbrev YIz (b : List UInt8) (i : Int) : Arg := (.tup [(false, 1), (false, 1)], [cYs false b, cI i])
theorem sh_YI {f : Nat} {args outs : List Arg} {b : List UInt8} {i : Int} (h : FO f args outs (YI b i)) : FO f args outs (YIz b i) := by
  have := sh_res h
  rwa [show shcL [cYs true b, cI i] = [cYs false b, cI i] by simp [shcL, Vs.shc, shcLL_byts]] at this
abbrev TMz (p : Mani) (b : Bool) : Arg := (.tup [(true, 3), (false, 1)], [cI p.seg, cI p.len, cIs false p.dig, cB b])
theorem sh_TM {f : Nat} {args outs : List Arg} {p : Mani} {b : Bool} (h : FO f args outs (TMs p b)) : FO f args outs (TMz p b) := by
  have := sh_res h
  rwa [show shcL [cI p.seg, cI p.len, cIs true p.dig, cB b] = [cI p.seg, cI p.len, cIs false p.dig, cB b] by simp [shcL, Vs.shc, shcLL_ints]] at this
abbrev LBz (L : List Data) (b : Bool) : Arg := (.tup [(false, 1), (false, 1)], [sl false 5 (L.map (Data.c false)), cB b])
theorem sh_LB {f : Nat} {args outs : List Arg} {L : List Data} {b : Bool} (h : FO f args outs (LB L b)) : FO f args outs (LBz L b) := by
  have := sh_res h
  rwa [show shcL [sl true 5 (L.map (Data.c true)), cB b] = [sl false 5 (L.map (Data.c false)), cB b] by simp [shcL, Vs.shc, Data.shcs]] at this
theorem tmodN (a b : Nat) : ((a : Int) + 0).tmod (b : Int) = ((a % b : Nat) : Int) := by rw [Int.add_zero]; rfl
theorem getZ {L : List Data} {i : Nat} {x : Data} (h : L[i]? = some x) : (L.map (Data.c false))[((i : Nat) : Int).toNat]? = some (Data.c false x) := by simp [h]
set_option maxHeartbeats 64000000
theorem is3 : FI 3 Tryz.f3 := ⟨⟨Tryz.f3, Tryz.func3, rfl, rfl, rfl, rfl⟩, rfl⟩
set_option maxRecDepth 20000 in
set_option maxHeartbeats 16000000 in
theorem ex0Objects (l : List UInt8) (hl : l.length ≤ 1048576) (b : List UInt8) (size : Int) (hb : b.length < 24) (k1 : FO 5 [Ys false l] [Ys false l] (YIz b size)) (t : Tru) (ht : t.ok) (z : Data) (k2 : FO 6 [Ys false l] [Ys false l] (TD t z))    (p : Mani) (G : Nat → List UInt8) (L : List Data) (X : Data) (tr : Bool) (hv : vMani p = true) (h8 : p.dig.length ≤ 8) (hlen : L.length = p.dig.length + 1) (hLz : ∀ x ∈ L, x.sz ∧ trusted t x 50 = tr) (hX : L[0]? = some X) (hXc : X.content = encs (p.seg :: p.len :: p.dig)) (hXl : X.content.length ≤ 60) (hYc : ∀ i, i < p.dig.length → ∃ y, L[i + 1]? = some y ∧ y.content = G i) (hG2 : ∀ t, t < p.dig.length → vSeg p t (G t) = true ∧ 0 < (G t).length) (hGl : ∀ t, (G t).length ≤ 24) (hfl : (List.range p.dig.length).flatMap G = b)    (k3 : FO 7 [Ks false t.keys, A (Name.c false kA), A (Name.c false nL), Ys false b, I size, I 400] [Ks false t.keys, A (Name.c false kA), A (Name.c false nL), Ys false b, I size, I 400] (LBz L true)) : FO 3 [Ys false l] [Ys false l] (B true) := by
  refine fok envOk mixed is3 ⟨rfl, rfl, ?_⟩
  have hX0 : (L.map (Data.c false))[(0 : Int).toNat]? = some (Data.c false X) := getZ (i := 0) hX
  have hY : ∀ i : Nat, i < p.dig.length → ∃ y, (L.map (Data.c false))[((i : Int) + 1).toNat]? = some (Data.c false y) ∧ y.content = G i := by
    intro i hi
    obtain ⟨y, h1, h2⟩ := hYc i hi
    refine ⟨y, ?_, h2⟩
    rw [show (i : Int) + 1 = ((i + 1 : Nat) : Int) by simp]
    exact getZ h1
  have hXm : X ∈ L := List.mem_of_getElem? hX
  have hT0 := i_IsTrusted t X 50 ht (hLz X hXm).1
  rw [(hLz X hXm).2] at hT0
  have hD0 := i_DecodeManifest X.content (by omega)
  rw [hXc, dec_encM hv, ← hXc] at hD0
  have hD := sh_TM (p := p) (b := true) hD0
  clear hD0 hXc hYc
  have hNw := sh_Fetc (i_NewFetcher p (by omega))
  have g0 := Good.new hv G
  generalize newF p = f0 at hNw g0
  (repeat' ((conv => whnf); first | refine stp ?_ | refine Cl.mk (big_no l hl) ?_ | refine Cl.mk (k1) ?_ | refine Cl.mk (k2) ?_ | refine Cl.eq k3 (by simp only [shcLL, shcL, Vs.shc]; rfl) ?_ | refine Cl.pre (by simp only [shcLL_ints, shcLL_byts, shcLL_strs, Bnd.shcs, Data.shcs, Fetc.shcs, Gran.shcs, Keyy.shcs, Mani.shcs, Name.shcs, Read.shcs, Rout.shcs, Rul.shcs, Segm.shcs, TEnt.shcs, Tru.shcs]; rfl) ?_))
  refine Lp.mk [.sl 0, .sl 3, .bx 5, .sl 5, .sl 8, .sl 10] (fun m σ => ∃ i, i + m = L.length ∧ σ = [Sa 0 (Ys false l), Sa 3 (Ys false b), Bx 5 (Tru.c false t), Pt 5, Sa 8 (O (sl false 5 (L.map (Data.c false)))), Sa 10 (I i)]) (L.length) _ (WkS.weak _ _) ⟨0, by simp, (by first | rfl | (simp only [zlen, zsum, Nat.zero_mul, Int.add_zero, Int.sub_zero, List.nil_append, markG]; rfl))⟩ ?_
  rintro m τ ⟨i, hi, rfl⟩
  by_cases hlt : i < L.length
  · have f1 : decide ((i : Int) < ((L.length : Nat) : Int)) = true := by simp; omega
    obtain ⟨x, hx⟩ : ∃ x, L[i]? = some x := ⟨L[i], by simp [hlt]⟩
    have hxi := getZ hx
    have hxm := List.mem_of_getElem? hx
    have hT := i_IsTrusted t x 50 ht (hLz x hxm).1
    rw [(hLz x hxm).2] at hT
    have f3 : (!(tr == tr)) = false := by simp
    (repeat' ((conv => whnf); first | refine stp ?_ | refine Nm.mk lenC ?_ | refine Rq.mk ⟨by omega, by rw [List.length_map]; omega⟩ ?_ | refine El.mk hxi ?_ | refine El.mk hX0 ?_ | refine Cl.mk (hT) ?_ | refine Cl.mk (hT0) ?_ | refine Cl.pre (by simp only [shcLL_ints, shcLL_byts, shcLL_strs, Bnd.shcs, Data.shcs, Fetc.shcs, Gran.shcs, Keyy.shcs, Mani.shcs, Name.shcs, Read.shcs, Rout.shcs, Rul.shcs, Segm.shcs, TEnt.shcs, Tru.shcs]; rfl) ?_))
    refine Nx.intro (m - 1) (by omega) _ (WkS.weak _ _) ⟨i + 1, by omega, ?_⟩
    (repeat' (first | exact rfl | refine consE ?_ ?_ | refine entE ?_ | refine vI ?_ | refine vS ?_ | refine vT ?_ | refine vB ?_))
  obtain rfl : i = L.length := by omega
  have f1 : decide (((L.length : Nat) : Int) < ((L.length : Nat) : Int)) = false := by simp
  (repeat' ((conv => whnf); first | refine stp ?_ | refine Nm.mk lenC ?_ | refine Rq.mk ⟨by omega, by rw [List.length_map]; omega⟩ ?_ | refine El.mk hX0 ?_ | refine Cl.mk (hD) ?_ | refine Cl.mk (hNw) ?_ | refine Cl.pre (by simp only [shcLL_ints, shcLL_byts, shcLL_strs, Bnd.shcs, Data.shcs, Fetc.shcs, Gran.shcs, Keyy.shcs, Mani.shcs, Name.shcs, Read.shcs, Rout.shcs, Rul.shcs, Segm.shcs, TEnt.shcs, Tru.shcs]; rfl) ?_))
  clear f1 hi hT0 hD hNw hX0
  refine Lp.mk [.sl 0, .sl 3, .sl 8, .sl 12, .bx 13, .sl 13, .sl 14] (fun m σ => ∃ i f r o, i + m = 60 ∧ Good p G f r o ∧ σ = [Sa 0 (Ys false l), Sa 3 (Ys false b), Sa 8 (O (sl false 5 (L.map (Data.c false)))), Sa 12 (B true), Bx 13 (Fetc.c false f), Pt 13, Sa 14 (I i)]) (60) _ (WkS.weak _ _) ⟨0, f0, 0, 0, rfl, g0, (by first | rfl | (simp only [zlen, zsum, Nat.zero_mul, Int.add_zero, Int.sub_zero, List.nil_append, markG]; rfl))⟩ ?_
  rintro m1 τ ⟨i, f, r, o, hi, g, rfl⟩
  have hz := g.size hGl
  by_cases hlt : i < 60
  case neg =>
    have f1 : decide ((i : Int) < 60) = false := by simp; omega
    (repeat' ((conv => whnf); first | refine stp ?_ ))
    refine Lp.mk [.sl 3, .sl 8, .sl 12, .bx 13, .sl 13, .sl 19] (fun m σ => ∃ k f r o, k + m = p.dig.length ∧ Good p G f r o ∧ (∀ j, j < k → r.testBit j = true) ∧ σ = [Sa 3 (Ys false b), Sa 8 (O (sl false 5 (L.map (Data.c false)))), Sa 12 (B true), Bx 13 (Fetc.c false f), Pt 13, Sa 19 (I k)]) (p.dig.length) _ (WkS.weak _ _) ⟨0, f, r, o, by simp, g, by intro j hj; omega, (by first | rfl | (simp only [zlen, zsum, Nat.zero_mul, Int.add_zero, Int.sub_zero, List.nil_append, markG]; rfl))⟩ ?_
    rintro m τ ⟨k, f, r, o, hk, g, hset, rfl⟩
    have hz := g.size hGl
    by_cases hlt : k < p.dig.length
    · have f2 : decide ((k : Int) + 1 < ((L.length : Nat) : Int)) = true := by rw [hlen]; simp; omega
      obtain ⟨y, hy1, hy2⟩ := hY k hlt
      have hgl := hGl k
      have hR := sh_Fetc (i_SegmentReceived f k y.content g.rng (by omega) (by rw [hy2]; omega))
      have g2 := g.rcv hG2 k hlt
      rw [← hy2] at g2
      generalize rcvF f k y.content = f2 at hR g2
      (repeat' ((conv => whnf); first | refine stp ?_ | refine Nm.mk lenC ?_ | refine El.mk hy1 ?_ | refine Rq.mk ⟨by omega, by rw [List.length_map]; omega⟩ ?_ | refine Cl.mk (hR) ?_ | refine Cl.pre (by simp only [shcLL_ints, shcLL_byts, shcLL_strs, Bnd.shcs, Data.shcs, Fetc.shcs, Gran.shcs, Keyy.shcs, Mani.shcs, Name.shcs, Read.shcs, Rout.shcs, Rul.shcs, Segm.shcs, TEnt.shcs, Tru.shcs]; rfl) ?_))
      refine Nx.intro (m - 1) (by omega) _ (WkS.weak _ _) ⟨k + 1, f2, _, _, by omega, g2, (fun j hj => by
        rw [or_bit]
        by_cases hjk : k = j
        · simp [hjk]
        · rw [hset j (by omega)]; rfl), ?_⟩
      (repeat' (first | exact rfl | refine consE ?_ ?_ | refine entE ?_ | refine vI ?_ | refine vS ?_ | refine vT ?_ | refine vB ?_))
    · obtain rfl : k = p.dig.length := by omega
      have f2 : decide ((p.dig.length : Int) + 1 < ((L.length : Nat) : Int)) = false := by rw [hlen]; simp
      have hCx := i_IsComplete f g.rng (by omega)
      rw [g.complete hG2 hset] at hCx
      have hEx := i_Reassemble f (by omega)
      rw [reass_gd g hset, hfl] at hEx
      have hEx := sh_Y hEx
      (repeat' ((conv => whnf); first | refine stp ?_ | refine Nm.mk lenC ?_ | refine Cl.mk (hCx) ?_ | refine Cl.mk (hEx) ?_ | refine Cl.mk (same_Bytes b (by omega)) ?_ | refine Cl.pre (by simp only [shcLL_ints, shcLL_byts, shcLL_strs, Bnd.shcs, Data.shcs, Fetc.shcs, Gran.shcs, Keyy.shcs, Mani.shcs, Name.shcs, Read.shcs, Rout.shcs, Rul.shcs, Segm.shcs, TEnt.shcs, Tru.shcs]; rfl) ?_))
      exact Vs.Fin.mk (WkR.refl _) (.refl _)
  have f1 : decide ((i : Int) < 60) = true := by simp; omega
  have hCo := i_IsComplete f g.rng (by omega)
  generalize (vFet f && decide (f.received = allM f.mani)) = c at hCo
  cases c with
  | true =>
    (repeat' ((conv => whnf); first | refine stp ?_ | refine Cl.mk (hCo) ?_ | refine Cl.pre (by simp only [shcLL_ints, shcLL_byts, shcLL_strs, Bnd.shcs, Data.shcs, Fetc.shcs, Gran.shcs, Keyy.shcs, Mani.shcs, Name.shcs, Read.shcs, Rout.shcs, Rul.shcs, Segm.shcs, TEnt.shcs, Tru.shcs]; rfl) ?_))
    refine Lp.mk [.sl 3, .sl 8, .sl 12, .bx 13, .sl 13, .sl 19] (fun m σ => ∃ k f r o, k + m = p.dig.length ∧ Good p G f r o ∧ (∀ j, j < k → r.testBit j = true) ∧ σ = [Sa 3 (Ys false b), Sa 8 (O (sl false 5 (L.map (Data.c false)))), Sa 12 (B true), Bx 13 (Fetc.c false f), Pt 13, Sa 19 (I k)]) (p.dig.length) _ (WkS.weak _ _) ⟨0, f, r, o, by simp, g, by intro j hj; omega, (by first | rfl | (simp only [zlen, zsum, Nat.zero_mul, Int.add_zero, Int.sub_zero, List.nil_append, markG]; rfl))⟩ ?_
    rintro m τ ⟨k, f, r, o, hk, g, hset, rfl⟩
    have hz := g.size hGl
    by_cases hlt : k < p.dig.length
    · have f2 : decide ((k : Int) + 1 < ((L.length : Nat) : Int)) = true := by rw [hlen]; simp; omega
      obtain ⟨y, hy1, hy2⟩ := hY k hlt
      have hgl := hGl k
      have hR := sh_Fetc (i_SegmentReceived f k y.content g.rng (by omega) (by rw [hy2]; omega))
      have g2 := g.rcv hG2 k hlt
      rw [← hy2] at g2
      generalize rcvF f k y.content = f2 at hR g2
      (repeat' ((conv => whnf); first | refine stp ?_ | refine Nm.mk lenC ?_ | refine El.mk hy1 ?_ | refine Rq.mk ⟨by omega, by rw [List.length_map]; omega⟩ ?_ | refine Cl.mk (hR) ?_ | refine Cl.pre (by simp only [shcLL_ints, shcLL_byts, shcLL_strs, Bnd.shcs, Data.shcs, Fetc.shcs, Gran.shcs, Keyy.shcs, Mani.shcs, Name.shcs, Read.shcs, Rout.shcs, Rul.shcs, Segm.shcs, TEnt.shcs, Tru.shcs]; rfl) ?_))
      refine Nx.intro (m - 1) (by omega) _ (WkS.weak _ _) ⟨k + 1, f2, _, _, by omega, g2, (fun j hj => by
        rw [or_bit]
        by_cases hjk : k = j
        · simp [hjk]
        · rw [hset j (by omega)]; rfl), ?_⟩
      (repeat' (first | exact rfl | refine consE ?_ ?_ | refine entE ?_ | refine vI ?_ | refine vS ?_ | refine vT ?_ | refine vB ?_))
    · obtain rfl : k = p.dig.length := by omega
      have f2 : decide ((p.dig.length : Int) + 1 < ((L.length : Nat) : Int)) = false := by rw [hlen]; simp
      have hCx := i_IsComplete f g.rng (by omega)
      rw [g.complete hG2 hset] at hCx
      have hEx := i_Reassemble f (by omega)
      rw [reass_gd g hset, hfl] at hEx
      have hEx := sh_Y hEx
      (repeat' ((conv => whnf); first | refine stp ?_ | refine Nm.mk lenC ?_ | refine Cl.mk (hCx) ?_ | refine Cl.mk (hEx) ?_ | refine Cl.mk (same_Bytes b (by omega)) ?_ | refine Cl.pre (by simp only [shcLL_ints, shcLL_byts, shcLL_strs, Bnd.shcs, Data.shcs, Fetc.shcs, Gran.shcs, Keyy.shcs, Mani.shcs, Name.shcs, Read.shcs, Rout.shcs, Rul.shcs, Segm.shcs, TEnt.shcs, Tru.shcs]; rfl) ?_))
      exact Vs.Fin.mk (WkR.refl _) (.refl _)
  | false =>
  have hN := sh_Iz (i_NextSegments f g.rng (Fetc.size_dig (show Fetc.size f ≤ 1048576 by omega)))
  have hnl := nxt_len f
  have hnn := g.nxt_in
  generalize nxt f = s at hN hnl hnn
  (repeat' ((conv => whnf); first | refine stp ?_ | refine Cl.mk (hCo) ?_ | refine Cl.mk (hN) ?_ | refine Cl.pre (by simp only [shcLL_ints, shcLL_byts, shcLL_strs, Bnd.shcs, Data.shcs, Fetc.shcs, Gran.shcs, Keyy.shcs, Mani.shcs, Name.shcs, Read.shcs, Rout.shcs, Rul.shcs, Segm.shcs, TEnt.shcs, Tru.shcs]; rfl) ?_))
  clear hCo hN hz
  refine Lp.mk [.sl 0, .sl 3, .sl 8, .sl 12, .bx 13, .sl 13, .sl 14, .sl 15, .sl 16] (fun m σ => ∃ d q f r o, s = d ++ q ∧ m = q.length ∧ Good p G f r o ∧ σ = [Sa 0 (Ys false l), Sa 3 (Ys false b), Sa 8 (O (sl false 5 (L.map (Data.c false)))), Sa 12 (B true), Bx 13 (Fetc.c false f), Pt 13, Sa 14 (I i), Sa 15 (Is false s), Sa 16 (I d.length)]) (s.length) _ (WkS.weak _ _) ⟨[], s, f, r, o, rfl, rfl, g, (by first | rfl | (simp only [zlen, zsum, Nat.zero_mul, Int.add_zero, Int.sub_zero, List.nil_append, markG]; rfl))⟩ ?_
  clear g
  rintro m τ ⟨d, q, f, r, o, hs, rfl, g, rfl⟩
  have hz := g.size hGl
  have hy : s.length = d.length + q.length := by rw [hs]; simp
  cases q with
  | cons j q =>
    have f2 : decide ((d.length : Int) < ((s.length : Nat) : Int)) = true := by simp at hy ⊢; omega
    have hM := sh_Fetc (i_MarkRequested f j g.rng (by omega))
    obtain ⟨o2, g2⟩ := g.mark j
    generalize mrkF f j = f2 at hM g2
    (repeat' ((conv => whnf); first | refine stp ?_ | refine Nm.mk lenC ?_ | refine Rq.mk ⟨by omega, by rw [List.length_map]; simp at hy; omega⟩ ?_ | refine El.mk (getH hs rfl) ?_ | refine Cl.mk (hM) ?_ | refine Cl.pre (by simp only [shcLL_ints, shcLL_byts, shcLL_strs, Bnd.shcs, Data.shcs, Fetc.shcs, Gran.shcs, Keyy.shcs, Mani.shcs, Name.shcs, Read.shcs, Rout.shcs, Rul.shcs, Segm.shcs, TEnt.shcs, Tru.shcs]; rfl) ?_))
    refine Nx.intro q.length (by simp) _ (WkS.weak _ _) ⟨d ++ [j], q, f2, r, o2, by simp [hs], rfl, g2, ?_⟩
    (repeat' (first | exact rfl | refine consE ?_ ?_ | refine entE ?_ | refine vI ?_ | refine vS ?_ | refine vT ?_ | refine vB ?_))
    all_goals simp
  | nil =>
  have f2 : decide ((d.length : Int) < ((s.length : Nat) : Int)) = false := by simp at hy ⊢; omega
  (repeat' ((conv => whnf); first | refine stp ?_ | refine Nm.mk lenC ?_ | refine Cl.pre (by simp only [shcLL_ints, shcLL_byts, shcLL_strs, Bnd.shcs, Data.shcs, Fetc.shcs, Gran.shcs, Keyy.shcs, Mani.shcs, Name.shcs, Read.shcs, Rout.shcs, Rul.shcs, Segm.shcs, TEnt.shcs, Tru.shcs]; rfl) ?_))
  clear hz hy hs f2
  refine Lp.mk [.sl 0, .sl 3, .sl 8, .sl 12, .bx 13, .sl 13, .sl 14, .sl 15, .sl 17] (fun m σ => ∃ k f r o, k + m = s.length ∧ Good p G f r o ∧ σ = [Sa 0 (Ys false l), Sa 3 (Ys false b), Sa 8 (O (sl false 5 (L.map (Data.c false)))), Sa 12 (B true), Bx 13 (Fetc.c false f), Pt 13, Sa 14 (I i), Sa 15 (Is false s), Sa 17 (I k)]) (s.length) _ (WkS.weak _ _) ⟨0, f, r, o, by simp, g, (by first | rfl | (simp only [zlen, zsum, Nat.zero_mul, Int.add_zero, Int.sub_zero, List.nil_append, markG]; rfl))⟩ ?_
  clear g
  rintro m τ ⟨k, f, r, o, hk, g, rfl⟩
  have hz := g.size hGl
  by_cases hks : k < s.length
  case neg =>
    have f2 : decide ((k : Int) < ((s.length : Nat) : Int)) = false := by simp; omega
    have hVf := i_ValidFetcher f g.rng (by omega)
    rw [g.valid hG2] at hVf
    (repeat' ((conv => whnf); first | refine stp ?_ | refine Nm.mk lenC ?_ | refine Cl.mk (hVf) ?_ | refine Cl.pre (by simp only [shcLL_ints, shcLL_byts, shcLL_strs, Bnd.shcs, Data.shcs, Fetc.shcs, Gran.shcs, Keyy.shcs, Mani.shcs, Name.shcs, Read.shcs, Rout.shcs, Rul.shcs, Segm.shcs, TEnt.shcs, Tru.shcs]; rfl) ?_))
    refine Nx.intro (m1 - 1) (by omega) _ (WkS.weak _ _) ⟨i + 1, f, r, o, by omega, g, ?_⟩
    (repeat' (first | exact rfl | refine consE ?_ ?_ | refine entE ?_ | refine vI ?_ | refine vS ?_ | refine vT ?_ | refine vB ?_))
  have f2 : decide ((k : Int) < ((s.length : Nat) : Int)) = true := by simp; omega
  obtain ⟨ix, hix⟩ : ∃ ix, ix = (k + i) % s.length := ⟨_, rfl⟩
  have hixl : ix < s.length := by rw [hix]; exact Nat.mod_lt _ (by omega)
  have htm : ((k : Int) + (i : Int)).tmod ((s.length : Nat) : Int) = (ix : Int) := by
    rw [hix, show (k : Int) + (i : Int) = ((k + i : Nat) : Int) by simp]; rfl
  obtain ⟨j, hj1, hj2⟩ := hnn s[ix] (List.getElem_mem hixl)
  have hjs : (ints s)[((ix : Nat) : Int).toNat]? = some [cI (j : Int)] := by simp [ints, hixl, hj1]
  have hat := at_ok l ((i : Int) + (k : Int)) hl ⟨by omega, by omega⟩
  generalize (if h : ((i : Int) + (k : Int)).toNat < l.length then ((l[((i : Int) + (k : Int)).toNat]'h).toNat : Int) else (((i : Int) + (k : Int)) * 31 + l.length * 7) % 256) = v at hat
  by_cases hb0 : v.tmod 3 = 0
  · have f4 : (v.tmod 3 == 0) = true := by simp [hb0]
    have hL := sh_Fetc (i_SegmentLost f j g.rng (by omega))
    have g2 := g.lost j (by omega)
    generalize lostF f j = f2 at hL g2
    (repeat' ((conv => whnf); first | refine stp ?_ | refine Nm.mk lenC ?_ | refine Nm.mk htm ?_ | refine Rq.mk ⟨by omega, by rw [List.length_map]; omega⟩ ?_ | refine El.mk hjs ?_ | refine Cl.mk (hat) ?_ | refine Nm.mk (m := v.tmod 3) rfl ?_ | refine Cl.mk (hL) ?_ | refine Cl.pre (by simp only [shcLL_ints, shcLL_byts, shcLL_strs, Bnd.shcs, Data.shcs, Fetc.shcs, Gran.shcs, Keyy.shcs, Mani.shcs, Name.shcs, Read.shcs, Rout.shcs, Rul.shcs, Segm.shcs, TEnt.shcs, Tru.shcs]; rfl) ?_))
    refine Nx.intro (m - 1) (by omega) _ (WkS.weak _ _) ⟨k + 1, f2, _, _, by omega, g2, ?_⟩
    (repeat' (first | exact rfl | refine consE ?_ ?_ | refine entE ?_ | refine vI ?_ | refine vS ?_ | refine vT ?_ | refine vB ?_))
  · have f4 : (v.tmod 3 == 0) = false := by simp [hb0]
    obtain ⟨y, hy1, hy2⟩ := hY j hj2
    have hgl := hGl j
    have hR := sh_Fetc (i_SegmentReceived f j y.content g.rng (by omega) (by rw [hy2]; omega))
    have g2 := g.rcv hG2 j hj2
    rw [← hy2] at g2
    generalize rcvF f j y.content = f2 at hR g2
    (repeat' ((conv => whnf); first | refine stp ?_ | refine Nm.mk lenC ?_ | refine Nm.mk htm ?_ | refine Rq.mk ⟨by omega, by rw [List.length_map]; omega⟩ ?_ | refine El.mk hjs ?_ | refine Cl.mk (hat) ?_ | refine Nm.mk (m := v.tmod 3) rfl ?_ | refine El.mk hy1 ?_ | refine Cl.mk (hR) ?_ | refine Cl.pre (by simp only [shcLL_ints, shcLL_byts, shcLL_strs, Bnd.shcs, Data.shcs, Fetc.shcs, Gran.shcs, Keyy.shcs, Mani.shcs, Name.shcs, Read.shcs, Rout.shcs, Rul.shcs, Segm.shcs, TEnt.shcs, Tru.shcs]; rfl) ?_))
    refine Nx.intro (m - 1) (by omega) _ (WkS.weak _ _) ⟨k + 1, f2, _, _, by omega, g2, ?_⟩
    (repeat' (first | exact rfl | refine consE ?_ ?_ | refine entE ?_ | refine vI ?_ | refine vS ?_ | refine vT ?_ | refine vB ?_))
set_option maxRecDepth 20000 in
set_option maxHeartbeats 16000000 in
theorem ex1Objects (l : List UInt8) (hl : ¬ l.length ≤ 1048576) : FO 3 [Ys false l] [Ys false l] (B true) := by
  refine fok envOk mixed is3 ⟨rfl, rfl, ?_⟩
  (repeat' ((conv => whnf); first | refine stp ?_ | refine Cl.mk (big_yes l hl) ?_ | refine Cl.pre (by simp only [shcLL_ints, shcLL_byts, shcLL_strs, Bnd.shcs, Data.shcs, Fetc.shcs, Gran.shcs, Keyy.shcs, Mani.shcs, Name.shcs, Read.shcs, Rout.shcs, Rul.shcs, Segm.shcs, TEnt.shcs, Tru.shcs]; rfl) ?_))
  exact Vs.Fin.mk (WkR.refl _) (.refl _)
theorem exObjects (l : List UInt8) : FO 3 [Ys false l] [Ys false l] (B true) := by
  by_cases hl : l.length ≤ 1048576
  · obtain ⟨b, size, hb, hs, k1⟩ := DSegm_ok l hl
    obtain ⟨C, z, hC, hCz, k2⟩ := DMade_ok l hl
    obtain ⟨p, G, L, X, tr, e1, e2, hv, h8, hlen, hLz, hX, hXc, hXl, hYc, hG2, hGl, hfl⟩ := obj_facts hb hs C
    have k3 := i_PublishSegments K4 kA nL b size 400 K4_sz (by decide +kernel) (by decide +kernel) (by omega)
    rw [e1, e2] at k3
    exact ex0Objects l hl b size hb (sh_YI k1) (T4 C) (T4_ok hC hCz) z k2 p G L X tr hv h8 hlen hLz hX hXc hXl hYc hG2 hGl hfl (sh_LB k3)
  · exact ex1Objects l hl
end Go.Proofs.YtoekfmkbkffciaaGreatDoor
