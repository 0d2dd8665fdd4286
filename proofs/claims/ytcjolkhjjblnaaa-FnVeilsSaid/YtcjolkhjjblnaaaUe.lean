/- Contracts of functions of the program: no statement of the seat is proved here. Each under the conditions that stand in it. -/
import Derived.Test.YtcjolkhjjblnaaaUd
set_option linter.all false
namespace Go.Proofs.Ytcjolkhjjblnaaa
open Go.Vs Go.Proofs
theorem is45 : FI 45 Try.f45 := ⟨⟨Try.f45, Try.func45, rfl, rfl, rfl, rfl⟩, rfl⟩
set_option maxRecDepth 20000 in
set_option maxHeartbeats 16000000 in
theorem DSeal0 (l : List UInt8) (c0 c1 c2 c3 c4 : List AV) (n : Name) (v y : Int) (b : List UInt8) (k0 : FO 62 [Ys false l] [Ys false l] (O (.own c0))) (k1 : FO 102 [O (.own c0)] [O (.own c1)] (A (Name.c true n))) (k2 : FO 103 [O (.own c1), Is false [900, 0, -1]] [O (.own c2), Is false [900, 0, -1]] (I v)) (k3 : FO 77 [O (.own c2), I 6] [O (.own c3), I 6] (I y)) (k4 : FO 90 [O (.own c3), I y] [O (.own c4), I y] (Ys true b)) : FO 45 [Ys false l] [Ys false l] (INY v n b) := by
  refine fok envOk mixed is45 ⟨rfl, rfl, ?_⟩
  (repeat' ((conv => whnf); first | refine Br.tt ?_ | refine Br.ff ?_ | refine Br.pos (by assumption) ?_ | refine Br.neg (by assumption) ?_ | refine Br.bself ?_ | refine Br.dself ?_ | refine Br.iself ?_ | refine Nm.mk lenC ?_ | refine Nm.mk (wrapI (by (first | omega | (simp [inR_t, inR_f] at *; omega))) (by (first | omega | (simp [inR_t, inR_f] at *; omega)))) ?_ | refine Nm.mk (wrapQ (by (first | omega | (simp [inR_t, inR_f] at *; omega))) (by (first | omega | (simp [inR_t, inR_f] at *; omega))) (by (first | omega | (simp [inR_t, inR_f] at *; omega)))) ?_ | refine Nm.mk (tmodN (by (first | omega | (simp [inR_t, inR_f] at *; omega)))) ?_ | refine Nm.mk (szS _) ?_ | refine Nm.mk (mi_eq _ _) ?_ | refine Nm.mk (ma_eq _ _) ?_ | refine Rq.mk (by first | (simp [dOwnL, dOwn] <;> fail) | (first | omega | (simp [inR_t, inR_f] at *; omega))) ?_ | refine And.intro (orderFast (by kernel_rfl)) ?_ | refine And.intro (by kernel_rfl) ?_ | refine Cl.mk (k0) ?_ | refine Cl.mk (k1) ?_ | refine Cl.eq k2 (by simp only [shcLL, shcL, Vs.shc]; rfl) ?_ | refine Cl.mk (k3) ?_ | refine Cl.mk (k4) ?_ | refine Cl.pre (by simp only [shcLL_ints, shcLL_byts, shcLL_strs, Fetc.shcs, Gran.shcs, Mani.shcs, Name.shcs, Read.shcs, Segm.shcs]; rfl) ?_))
  exact Vs.Fin.mk (WkR.refl _) (.refl _)
theorem DSeal_ok (l : List UInt8) (hl : l.length ≤ 1048576) : ∃ (k : Int) (n : Name) (b : List UInt8), strsSize n.parts ≤ 50 ∧ b.length ≤ 6 ∧ FO 45 [Ys false l] [Ys false l] (INY k n b) := by
  obtain ⟨c0, i0, k0⟩ := new_ok l hl
  obtain ⟨c1, n, i1, hn, k1⟩ := any_ok i0
  obtain ⟨c2, v, i2, hv, k2⟩ := int_ok i1 [900, 0, -1] (by decide) (by decide)
  obtain ⟨c3, y, i3, hy, -, k3⟩ := below_ok i2 6
  have hy := hy (by omega)
  obtain ⟨c4, b, i4, hb, k4⟩ := bytes_ok i3 y (by omega)
  exact ⟨v, n, b, hn, by omega, DSeal0 l c0 c1 c2 c3 c4 n v y b k0 k1 k2 k3 k4⟩
def strs4 : List ByteArray := [⟨#[97]⟩, ⟨#[110, 101, 119, 115]⟩, ⟨#[]⟩, ⟨#[65]⟩]
theorem strs4_size : ∀ s ∈ strs4, s.size ≤ 8 := by decide
theorem is46 : FI 46 Try.f46 := ⟨⟨Try.f46, Try.func46, rfl, rfl, rfl, rfl⟩, rfl⟩
set_option maxRecDepth 20000 in
set_option maxHeartbeats 16000000 in
theorem DNarrow0 (l : List UInt8) (c0 c1 c2 : List AV) (n : Name) (s : ByteArray) (hn : strsSize n.parts ≤ 50) (k0 : FO 62 [Ys false l] [Ys false l] (O (.own c0))) (k1 : FO 102 [O (.own c0)] [O (.own c1)] (A (Name.c true n))) (k2 : FO 104 [O (.own c1), Ss false strs4] [O (.own c2), Ss false strs4] (S s)) : FO 46 [Ys false l] [Ys false l] (GSt (mkGran 900 n) s) := by
  refine fok envOk mixed is46 ⟨rfl, rfl, ?_⟩
  (repeat' ((conv => whnf); first | refine Br.tt ?_ | refine Br.ff ?_ | refine Br.pos (by assumption) ?_ | refine Br.neg (by assumption) ?_ | refine Br.bself ?_ | refine Br.dself ?_ | refine Br.iself ?_ | refine Nm.mk lenC ?_ | refine Nm.mk (wrapI (by (first | omega | (simp [inR_t, inR_f] at *; omega))) (by (first | omega | (simp [inR_t, inR_f] at *; omega)))) ?_ | refine Nm.mk (wrapQ (by (first | omega | (simp [inR_t, inR_f] at *; omega))) (by (first | omega | (simp [inR_t, inR_f] at *; omega))) (by (first | omega | (simp [inR_t, inR_f] at *; omega)))) ?_ | refine Nm.mk (tmodN (by (first | omega | (simp [inR_t, inR_f] at *; omega)))) ?_ | refine Nm.mk (szS _) ?_ | refine Nm.mk (mi_eq _ _) ?_ | refine Nm.mk (ma_eq _ _) ?_ | refine Rq.mk (by first | (simp [dOwnL, dOwn] <;> fail) | (first | omega | (simp [inR_t, inR_f] at *; omega))) ?_ | refine And.intro (orderFast (by kernel_rfl)) ?_ | refine And.intro (by kernel_rfl) ?_ | refine Cl.mk (k0) ?_ | refine Cl.mk (k1) ?_ | refine Cl.mk (s_MakeGrant 900 n (by omega)) ?_ | refine Cl.eq k2 (by simp only [shcLL, shcL, Vs.shc]; rfl) ?_ | refine Cl.pre (by simp only [shcLL_ints, shcLL_byts, shcLL_strs, Fetc.shcs, Gran.shcs, Mani.shcs, Name.shcs, Read.shcs, Segm.shcs]; rfl) ?_))
  exact Vs.Fin.mk (WkR.refl _) (.refl _)
theorem DNarrow_ok (l : List UInt8) (hl : l.length ≤ 1048576) : ∃ (g : Gran) (s : ByteArray), strsSize g.name.parts ≤ 50 ∧ s.size ≤ 8 ∧ FO 46 [Ys false l] [Ys false l] (GSt g s) := by
  obtain ⟨c0, i0, k0⟩ := new_ok l hl
  obtain ⟨c1, n, i1, hn, k1⟩ := any_ok i0
  obtain ⟨c2, s, i2, hs, k2⟩ := str_ok i1 strs4 (by decide) (by decide)
  exact ⟨mkGran 900 n, s, hn, strs4_size s hs, DNarrow0 l c0 c1 c2 n s hn k0 k1 k2⟩
theorem Breqi {x : Int} {X Y : Prop} (h : X) : Br (x == x) X Y := by
  rw [beq_self_eq_true]; exact Br.tt h
theorem openB_seal (k : Int) (n : Name) (b : List UInt8) (l : List Name) : openB (l.map (mkGran k)) n (sealC k n b) = if l.any (fun m => hasPre n m) = true then b else [] := by
  unfold openB; rw [open_seal]; split <;> rfl
theorem openO_seal (k : Int) (n : Name) (b : List UInt8) (l : List Name) : openO (l.map (mkGran k)) n (sealC k n b) = l.any (fun m => hasPre n m) := by
  unfold openO; rw [open_seal]
  cases h : l.any (fun m => hasPre n m) <;> rfl
theorem gs_size (k : Int) : ∀ (l : List Name), (∀ m ∈ l, strsSize m.parts ≤ 27) → sumN Gran.size (l.map (mkGran k)) ≤ 27 * l.length
  | [], _ => by simp [sumN]
  | m :: l, h => by
    have h1 := gs_size k l (fun y hy => h y (by simp [hy]))
    have h2 : Gran.size (mkGran k m) ≤ 27 := h m (by simp)
    simp only [List.map_cons, sumN, List.length_cons]; omega
set_option maxHeartbeats 32000000
theorem is6 : FI 6 Try.f6 := ⟨⟨Try.f6, Try.func6, rfl, rfl, rfl, rfl⟩, rfl⟩
set_option maxRecDepth 20000 in
set_option maxHeartbeats 16000000 in
theorem ex0Veils (l : List UInt8) (hl : l.length ≤ 1048576) (N : List Name) (n : Name) (b : List UInt8) (hN : N.length ≤ 3) (hNm : ∀ m ∈ N, strsSize m.parts ≤ 27) (hn : strsSize n.parts ≤ 27) (hb : b.length ≤ 6) (k1 : FO 41 [Ys false l] [Ys false l] (NNY N n b)) (L : List Gran) (m : Name) (c : List UInt8) (hL : L.length + sumN Gran.size L ≤ 100) (hm : strsSize m.parts ≤ 30) (hc : c.length ≤ 20) (k2 : FO 42 [Ys false l] [Ys false l] (GNY L m c)) (k : Int) (p : Name) (d : List UInt8) (hp : strsSize p.parts ≤ 50) (hd : d.length ≤ 6) (k3 : FO 45 [Ys false l] [Ys false l] (INY k p d)) (g : Gran) (s : ByteArray) (hg : strsSize g.name.parts ≤ 50) (hs : s.size ≤ 8) (k4 : FO 46 [Ys false l] [Ys false l] (GSt g s)) (a : Int) (q : Name) (hq : strsSize q.parts ≤ 50) (k5 : FO 49 [Ys false l] [Ys false l] (IN a q)) : FO 6 [Ys false l] [Ys false l] (B true) := by
  refine fok envOk mixed is6 ⟨rfl, rfl, ?_⟩
  have hnl := strs_len hn
  have hgl := strs_len hg
  have hol := openB_len L m c
  have hsl := sealC_len k p d
  have hng : (narG g s).name.parts.length ≤ 100 := strs_len (by
    have := strs_snoc g.name.parts s
    unfold narG; split
    · show strsSize (g.name.parts ++ [s]) ≤ 100
      omega
    · omega)
  (repeat' ((conv => whnf); first | refine Br.tt ?_ | refine Br.ff ?_ | refine Br.pos (by assumption) ?_ | refine Br.neg (by assumption) ?_ | refine Br.bself ?_ | refine Br.dself ?_ | refine Br.iself ?_ | refine Nm.mk lenC ?_ | refine Nm.mk (wrapI (by (first | omega | (simp [inR_t, inR_f] at *; omega))) (by (first | omega | (simp [inR_t, inR_f] at *; omega)))) ?_ | refine Nm.mk (wrapQ (by (first | omega | (simp [inR_t, inR_f] at *; omega))) (by (first | omega | (simp [inR_t, inR_f] at *; omega))) (by (first | omega | (simp [inR_t, inR_f] at *; omega)))) ?_ | refine Nm.mk (tmodN (by (first | omega | (simp [inR_t, inR_f] at *; omega)))) ?_ | refine Nm.mk (szS _) ?_ | refine Nm.mk (mi_eq _ _) ?_ | refine Nm.mk (ma_eq _ _) ?_ | refine Rq.mk (by first | (simp [dOwnL, dOwn] <;> fail) | (first | omega | (simp [inR_t, inR_f] at *; omega))) ?_ | refine And.intro (orderFast (by kernel_rfl)) ?_ | refine And.intro (by kernel_rfl) ?_ | refine Cl.mk (big_no l hl) ?_ | refine Cl.mk (k1) ?_ | refine Cl.mk (k2) ?_ | refine Cl.mk (i_OpenContent L m c (by omega) (by omega) (by omega)) ?_ | refine Cl.mk (s_OpenContent L m c (by omega) (by omega) (by omega)) ?_ | refine Cl.mk (k3) ?_ | refine Cl.mk (k4) ?_ | refine Cl.mk (i_NarrowGrant g s (by omega) (by omega)) ?_ | refine Cl.mk (s_NarrowGrant g s (by omega) (by omega)) ?_ | refine Cl.mk (k5) ?_ | refine Cl.mk (same_Bytes (openB L m c) (by omega)) ?_ | refine Cl.mk (i_SealContent k p d (by omega) (by omega)) ?_ | refine Cl.mk (s_SealContent k p d (by omega) (by omega)) ?_ | refine Cl.mk (same_Bytes (sealC k p d) (by omega)) ?_ | refine Cl.mk (same_Name (narG g s).name (by omega)) ?_ | refine Cl.mk (i_NamespaceSecret a q (by omega)) ?_ | refine Cl.mk (s_NamespaceSecret a q (by omega)) ?_ | refine Cl.mk (i_GrantCovers L m (by omega) (by omega)) ?_ | refine Cl.mk (s_GrantCovers L m (by omega) (by omega)) ?_ | refine Cl.mk (i_GrantedSecret L m (by omega) (by omega)) ?_ | refine Cl.mk (s_GrantedSecret L m (by omega) (by omega)) ?_ | refine Cl.pre (by simp only [shcLL_ints, shcLL_byts, shcLL_strs, Fetc.shcs, Gran.shcs, Mani.shcs, Name.shcs, Read.shcs, Segm.shcs]; rfl) ?_))
  have hss := sealC_len 77 n b
  have hgs := gs_size 77 N hNm
  have hg1 : g.name.parts.length ≤ 50 := strs_len hg
  refine Lp.mk [.sl 3, .bx 4, .sl 4, .sl 5, .bx 16, .sl 16, .sl 17, .bx 18, .sl 18, .sl 19, .sl 24, .sl 25, .sl 26] (fun m σ => ∃ X Z, N = X ++ Z ∧ m = Z.length ∧ σ = [Sa 3 (O (sl true 1 (N.map (Name.c true)))), Bx 4 (Name.c true n), Pt 4, Sa 5 (Ys true b), Bx 16 (Gran.c true g), Pt 16, Sa 17 (S s), Bx 18 (Gran.c true (narG g s)), Pt 18, Sa 19 (B (vName ⟨g.name.parts ++ [s]⟩)), Sa 24 (O (.sl true .non 2 ((X.map (mkGran 77)).map (Gran.c true)))), Sa 25 (B (X.any fun m => hasPre n m)), Sa 26 (I X.length)]) (N.length) _ (WkS.weak _ _) ⟨[], N, rfl, rfl, (by first | rfl | (simp only [zlen, zsum, Nat.zero_mul, Int.add_zero, Int.sub_zero, List.nil_append, markG]; rfl))⟩ ?_
  rintro mm τ ⟨X, Z, hAB, rfl, rfl⟩
  have hy : N.length = X.length + Z.length := by rw [hAB]; simp
  refine Nm.mk lenC ?_
  cases Z with
  | cons x Z =>
    have hx := hNm x (by rw [hAB]; simp)
    have hxl := strs_len hx
    simp at hy
    refine Br.pos (by simp <;> omega) ?_
    have hnx : (X ++ [x]).any (fun m => hasPre n m) = ((X.any fun m => hasPre n m) || hasPre n x) := by simp
    cases hr : (X.any fun m => hasPre n m) with
    | true =>
      (repeat' ((conv => whnf); first | refine Br.tt ?_ | refine Br.ff ?_ | refine Br.pos (by assumption) ?_ | refine Br.neg (by assumption) ?_ | refine Br.bself ?_ | refine Br.dself ?_ | refine Br.iself ?_ | refine Nm.mk lenC ?_ | refine Nm.mk (wrapI (by (first | omega | (simp [inR_t, inR_f] at *; omega))) (by (first | omega | (simp [inR_t, inR_f] at *; omega)))) ?_ | refine Nm.mk (wrapQ (by (first | omega | (simp [inR_t, inR_f] at *; omega))) (by (first | omega | (simp [inR_t, inR_f] at *; omega))) (by (first | omega | (simp [inR_t, inR_f] at *; omega)))) ?_ | refine Nm.mk (tmodN (by (first | omega | (simp [inR_t, inR_f] at *; omega)))) ?_ | refine Nm.mk (szS _) ?_ | refine Nm.mk (mi_eq _ _) ?_ | refine Nm.mk (ma_eq _ _) ?_ | refine Rq.mk (by first | (simp [dOwnL, dOwn] <;> fail) | (first | omega | (simp [inR_t, inR_f] at *; omega))) ?_ | refine And.intro (orderFast (by kernel_rfl)) ?_ | refine And.intro (by kernel_rfl) ?_ | refine El.mk (getH hAB rfl) ?_ | refine Cl.mk (i_MakeGrant 77 x (by omega)) ?_ | refine Cl.mk (i_HasPrefix n x (by omega) (by omega)) ?_ | refine Cl.pre (by simp only [shcLL_ints, shcLL_byts, shcLL_strs, Fetc.shcs, Gran.shcs, Mani.shcs, Name.shcs, Read.shcs, Segm.shcs]; rfl) ?_))
      refine Nx.intro Z.length (by simp) _ (WkS.weak _ _) ⟨X ++ [x], Z, by simp [hAB], rfl, ?_⟩
      (repeat' (first | exact rfl | refine consE ?_ ?_ | refine entE ?_ | refine vI ?_ | refine vS ?_ | refine vT ?_ | refine vB ?_))
      · simp
      · rw [hnx, hr]; rfl
      · simp
    | false =>
      (repeat' ((conv => whnf); first | refine Br.tt ?_ | refine Br.ff ?_ | refine Br.pos (by assumption) ?_ | refine Br.neg (by assumption) ?_ | refine Br.bself ?_ | refine Br.dself ?_ | refine Br.iself ?_ | refine Nm.mk lenC ?_ | refine Nm.mk (wrapI (by (first | omega | (simp [inR_t, inR_f] at *; omega))) (by (first | omega | (simp [inR_t, inR_f] at *; omega)))) ?_ | refine Nm.mk (wrapQ (by (first | omega | (simp [inR_t, inR_f] at *; omega))) (by (first | omega | (simp [inR_t, inR_f] at *; omega))) (by (first | omega | (simp [inR_t, inR_f] at *; omega)))) ?_ | refine Nm.mk (tmodN (by (first | omega | (simp [inR_t, inR_f] at *; omega)))) ?_ | refine Nm.mk (szS _) ?_ | refine Nm.mk (mi_eq _ _) ?_ | refine Nm.mk (ma_eq _ _) ?_ | refine Rq.mk (by first | (simp [dOwnL, dOwn] <;> fail) | (first | omega | (simp [inR_t, inR_f] at *; omega))) ?_ | refine And.intro (orderFast (by kernel_rfl)) ?_ | refine And.intro (by kernel_rfl) ?_ | refine El.mk (getH hAB rfl) ?_ | refine Cl.mk (i_MakeGrant 77 x (by omega)) ?_ | refine Cl.mk (i_HasPrefix n x (by omega) (by omega)) ?_ | refine Cl.pre (by simp only [shcLL_ints, shcLL_byts, shcLL_strs, Fetc.shcs, Gran.shcs, Mani.shcs, Name.shcs, Read.shcs, Segm.shcs]; rfl) ?_))
      refine Nx.intro Z.length (by simp) _ (WkS.weak _ _) ⟨X ++ [x], Z, by simp [hAB], rfl, ?_⟩
      (repeat' (first | exact rfl | refine consE ?_ ?_ | refine entE ?_ | refine vI ?_ | refine vS ?_ | refine vT ?_ | refine vB ?_))
      · simp
      · rw [hnx, hr]; rfl
      · simp
  | nil =>
    obtain rfl : N = X := by simpa using hAB
    refine Br.neg (by simp) ?_
    have hoB := openB_seal 77 n b N
    have hoO := openO_seal 77 n b N
    have hiO := i_OpenContent (N.map (mkGran 77)) n (sealC 77 n b) (by rw [List.length_map]; omega) (by omega) (by omega)
    rw [hoB, hoO] at hiO
    have hiC := i_GrantCovers (N.map (mkGran 77)) n (by rw [List.length_map]; omega) (by omega)
    rw [any_covs] at hiC
    have hfin : ∀ v : Bool, v = vName ⟨g.name.parts ++ [s]⟩ → v = true → narG g s = ⟨⟨g.name.parts ++ [s]⟩, dsec g.secret s⟩ := by
      rintro v rfl h
      simp [narG, h]
    generalize hv : vName ⟨g.name.parts ++ [s]⟩ = v at hfin ⊢
    have hfin := hfin v rfl
    cases hr : (N.any fun m => hasPre n m) with
    | true =>
      rw [hr] at hiO hiC
      simp only [if_true] at hiO
      cases v with
      | true =>
        rw [hfin rfl]
        (repeat' ((conv => whnf); first | refine Br.tt ?_ | refine Br.ff ?_ | refine Br.pos (by assumption) ?_ | refine Br.neg (by assumption) ?_ | refine Br.bself ?_ | refine Br.dself ?_ | refine Br.iself ?_ | refine Nm.mk lenC ?_ | refine Nm.mk (wrapI (by (first | omega | (simp [inR_t, inR_f] at *; omega))) (by (first | omega | (simp [inR_t, inR_f] at *; omega)))) ?_ | refine Nm.mk (wrapQ (by (first | omega | (simp [inR_t, inR_f] at *; omega))) (by (first | omega | (simp [inR_t, inR_f] at *; omega))) (by (first | omega | (simp [inR_t, inR_f] at *; omega)))) ?_ | refine Nm.mk (tmodN (by (first | omega | (simp [inR_t, inR_f] at *; omega)))) ?_ | refine Nm.mk (szS _) ?_ | refine Nm.mk (mi_eq _ _) ?_ | refine Nm.mk (ma_eq _ _) ?_ | refine Rq.mk (by first | (simp [dOwnL, dOwn] <;> fail) | (first | omega | (simp [inR_t, inR_f] at *; omega))) ?_ | refine And.intro (orderFast (by kernel_rfl)) ?_ | refine And.intro (by kernel_rfl) ?_ | refine Cl.mk (i_SealContent 77 n b (by omega) (by omega)) ?_ | refine Cl.mk (hiO) ?_ | refine Cl.mk (same_Bytes b (by omega)) ?_ | refine Cl.mk (hiC) ?_ | refine Cl.mk (i_DeriveSecret g.secret s (by omega)) ?_ | refine Breqi ?_ | refine Cl.mk (i_HasPrefix ⟨g.name.parts ++ [s]⟩ g.name (by simp; omega) (by omega)) ?_ | refine Cl.pre (by simp only [shcLL_ints, shcLL_byts, shcLL_strs, Fetc.shcs, Gran.shcs, Mani.shcs, Name.shcs, Read.shcs, Segm.shcs]; rfl) ?_))
        refine Vs.Fin.mk (WkR.eq ?_) (.refl _)
        rw [hasPre_snoc]
      | false =>
        (repeat' ((conv => whnf); first | refine Br.tt ?_ | refine Br.ff ?_ | refine Br.pos (by assumption) ?_ | refine Br.neg (by assumption) ?_ | refine Br.bself ?_ | refine Br.dself ?_ | refine Br.iself ?_ | refine Nm.mk lenC ?_ | refine Nm.mk (wrapI (by (first | omega | (simp [inR_t, inR_f] at *; omega))) (by (first | omega | (simp [inR_t, inR_f] at *; omega)))) ?_ | refine Nm.mk (wrapQ (by (first | omega | (simp [inR_t, inR_f] at *; omega))) (by (first | omega | (simp [inR_t, inR_f] at *; omega))) (by (first | omega | (simp [inR_t, inR_f] at *; omega)))) ?_ | refine Nm.mk (tmodN (by (first | omega | (simp [inR_t, inR_f] at *; omega)))) ?_ | refine Nm.mk (szS _) ?_ | refine Nm.mk (mi_eq _ _) ?_ | refine Nm.mk (ma_eq _ _) ?_ | refine Rq.mk (by first | (simp [dOwnL, dOwn] <;> fail) | (first | omega | (simp [inR_t, inR_f] at *; omega))) ?_ | refine And.intro (orderFast (by kernel_rfl)) ?_ | refine And.intro (by kernel_rfl) ?_ | refine Cl.mk (i_SealContent 77 n b (by omega) (by omega)) ?_ | refine Cl.mk (hiO) ?_ | refine Cl.mk (same_Bytes b (by omega)) ?_ | refine Cl.mk (hiC) ?_ | refine Cl.pre (by simp only [shcLL_ints, shcLL_byts, shcLL_strs, Fetc.shcs, Gran.shcs, Mani.shcs, Name.shcs, Read.shcs, Segm.shcs]; rfl) ?_))
        exact Vs.Fin.mk (WkR.refl _) (.refl _)
    | false =>
      rw [hr] at hiO hiC
      simp only [Bool.false_eq_true, if_false] at hiO
      cases v with
      | true =>
        rw [hfin rfl]
        (repeat' ((conv => whnf); first | refine Br.tt ?_ | refine Br.ff ?_ | refine Br.pos (by assumption) ?_ | refine Br.neg (by assumption) ?_ | refine Br.bself ?_ | refine Br.dself ?_ | refine Br.iself ?_ | refine Nm.mk lenC ?_ | refine Nm.mk (wrapI (by (first | omega | (simp [inR_t, inR_f] at *; omega))) (by (first | omega | (simp [inR_t, inR_f] at *; omega)))) ?_ | refine Nm.mk (wrapQ (by (first | omega | (simp [inR_t, inR_f] at *; omega))) (by (first | omega | (simp [inR_t, inR_f] at *; omega))) (by (first | omega | (simp [inR_t, inR_f] at *; omega)))) ?_ | refine Nm.mk (tmodN (by (first | omega | (simp [inR_t, inR_f] at *; omega)))) ?_ | refine Nm.mk (szS _) ?_ | refine Nm.mk (mi_eq _ _) ?_ | refine Nm.mk (ma_eq _ _) ?_ | refine Rq.mk (by first | (simp [dOwnL, dOwn] <;> fail) | (first | omega | (simp [inR_t, inR_f] at *; omega))) ?_ | refine And.intro (orderFast (by kernel_rfl)) ?_ | refine And.intro (by kernel_rfl) ?_ | refine Cl.mk (i_SealContent 77 n b (by omega) (by omega)) ?_ | refine Cl.mk (hiO) ?_ | refine Rq.mk (by simp [dOwnL, dOwn, dOwnLL]) ?_ | refine Cl.mk (hiC) ?_ | refine Cl.mk (i_DeriveSecret g.secret s (by omega)) ?_ | refine Breqi ?_ | refine Cl.mk (i_HasPrefix ⟨g.name.parts ++ [s]⟩ g.name (by simp; omega) (by omega)) ?_ | refine Cl.pre (by simp only [shcLL_ints, shcLL_byts, shcLL_strs, Fetc.shcs, Gran.shcs, Mani.shcs, Name.shcs, Read.shcs, Segm.shcs]; rfl) ?_))
        refine Vs.Fin.mk (WkR.eq ?_) (.refl _)
        rw [hasPre_snoc]
      | false =>
        (repeat' ((conv => whnf); first | refine Br.tt ?_ | refine Br.ff ?_ | refine Br.pos (by assumption) ?_ | refine Br.neg (by assumption) ?_ | refine Br.bself ?_ | refine Br.dself ?_ | refine Br.iself ?_ | refine Nm.mk lenC ?_ | refine Nm.mk (wrapI (by (first | omega | (simp [inR_t, inR_f] at *; omega))) (by (first | omega | (simp [inR_t, inR_f] at *; omega)))) ?_ | refine Nm.mk (wrapQ (by (first | omega | (simp [inR_t, inR_f] at *; omega))) (by (first | omega | (simp [inR_t, inR_f] at *; omega))) (by (first | omega | (simp [inR_t, inR_f] at *; omega)))) ?_ | refine Nm.mk (tmodN (by (first | omega | (simp [inR_t, inR_f] at *; omega)))) ?_ | refine Nm.mk (szS _) ?_ | refine Nm.mk (mi_eq _ _) ?_ | refine Nm.mk (ma_eq _ _) ?_ | refine Rq.mk (by first | (simp [dOwnL, dOwn] <;> fail) | (first | omega | (simp [inR_t, inR_f] at *; omega))) ?_ | refine And.intro (orderFast (by kernel_rfl)) ?_ | refine And.intro (by kernel_rfl) ?_ | refine Cl.mk (i_SealContent 77 n b (by omega) (by omega)) ?_ | refine Cl.mk (hiO) ?_ | refine Rq.mk (by simp [dOwnL, dOwn, dOwnLL]) ?_ | refine Cl.mk (hiC) ?_ | refine Cl.pre (by simp only [shcLL_ints, shcLL_byts, shcLL_strs, Fetc.shcs, Gran.shcs, Mani.shcs, Name.shcs, Read.shcs, Segm.shcs]; rfl) ?_))
        exact Vs.Fin.mk (WkR.refl _) (.refl _)
set_option maxRecDepth 20000 in
set_option maxHeartbeats 16000000 in
theorem ex1Veils (l : List UInt8) (hl : ¬ l.length ≤ 1048576) : FO 6 [Ys false l] [Ys false l] (B true) := by
  refine fok envOk mixed is6 ⟨rfl, rfl, ?_⟩
  (repeat' ((conv => whnf); first | refine Br.tt ?_ | refine Br.ff ?_ | refine Br.pos (by assumption) ?_ | refine Br.neg (by assumption) ?_ | refine Br.bself ?_ | refine Br.dself ?_ | refine Br.iself ?_ | refine Nm.mk lenC ?_ | refine Nm.mk (wrapI (by (first | omega | (simp [inR_t, inR_f] at *; omega))) (by (first | omega | (simp [inR_t, inR_f] at *; omega)))) ?_ | refine Nm.mk (wrapQ (by (first | omega | (simp [inR_t, inR_f] at *; omega))) (by (first | omega | (simp [inR_t, inR_f] at *; omega))) (by (first | omega | (simp [inR_t, inR_f] at *; omega)))) ?_ | refine Nm.mk (tmodN (by (first | omega | (simp [inR_t, inR_f] at *; omega)))) ?_ | refine Nm.mk (szS _) ?_ | refine Nm.mk (mi_eq _ _) ?_ | refine Nm.mk (ma_eq _ _) ?_ | refine Rq.mk (by first | (simp [dOwnL, dOwn] <;> fail) | (first | omega | (simp [inR_t, inR_f] at *; omega))) ?_ | refine And.intro (orderFast (by kernel_rfl)) ?_ | refine And.intro (by kernel_rfl) ?_ | refine Cl.mk (big_yes l hl) ?_ | refine Cl.pre (by simp only [shcLL_ints, shcLL_byts, shcLL_strs, Fetc.shcs, Gran.shcs, Mani.shcs, Name.shcs, Read.shcs, Segm.shcs]; rfl) ?_))
  exact Vs.Fin.mk (WkR.refl _) (.refl _)
theorem exVeils (l : List UInt8) : FO 6 [Ys false l] [Ys false l] (B true) := by
  by_cases hl : l.length ≤ 1048576
  · obtain ⟨N, n, b, h1, h2, h3, h4, k1⟩ := DShut_ok l hl
    obtain ⟨L, m, c, h5, h6, h7, k2⟩ := DOpen_ok l hl
    obtain ⟨k, p, d, h8, h9, k3⟩ := DSeal_ok l hl
    obtain ⟨g, s, h10, h11, k4⟩ := DNarrow_ok l hl
    obtain ⟨a, q, h12, k5⟩ := DNamespaceSecret_ok l hl
    exact ex0Veils l hl N n b h1 h2 h3 h4 k1 L m c h5 h6 h7 k2 k p d h8 h9 k3 g s h10 h11 k4 a q h12 k5
  · exact ex1Veils l hl
end Go.Proofs.Ytcjolkhjjblnaaa
