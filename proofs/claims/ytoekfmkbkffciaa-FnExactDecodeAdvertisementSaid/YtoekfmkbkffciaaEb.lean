/- Contracts of functions of the program: no statement of the seat is proved here. Each under the conditions that stand in it. -/
import Derived.Test.YtoekfmkbkffciaaFr
import Derived.Test.YtoekfmkbkffciaaPa
set_option linter.all false
namespace Go.Proofs.Ytoekfmkbkffciaa
open Go.Vs Go.Proofs
/-! Names read from bytes -/
theorem bytesOf_byts (l : List UInt8) : bytesOf (byts l) = l := by
  induction l with
  | nil => rfl
  | cons x l ih =>
    show UInt8.ofNat (x.toNat : Int).toNat :: bytesOf (byts l) = x :: l
    rw [ih, Int.toNat_natCast, UInt8.ofNat_toNat]
def rdB (b : List UInt8) (q m : Nat) : Option (List UInt8 × Nat) := match rdV (b.drop q) 0 0 with
  | none => none
  | some (x, c) => if x ≤ m ∧ q + c + x ≤ b.length then some ((b.drop (q + c)).take x, q + c + x) else none
abbrev TYs (l : List UInt8) (e : Int) (b : Bool) : Arg := (.tup [(false, 1), (false, 1), (false, 1)], [cYs true l, cI e, cB b])
abbrev TYo (o : Option (List UInt8 × Nat)) : Arg := match o with
  | none => TYs [] 0 false
  | some (l, e) => TYs l e true
theorem rdB_le {b : List UInt8} {q m : Nat} {l : List UInt8} {e : Nat} (h : rdB b q m = some (l, e)) : l.length ≤ m ∧ e ≤ b.length := by
  unfold rdB at h
  split at h
  · cases h
  · rename_i x c hx
    split at h
    · rename_i h1
      simp only [Option.some.injEq, Prod.mk.injEq] at h
      rw [← h.1, ← h.2]
      simp; omega
    · cases h
theorem cutB (b : List UInt8) (p x : Nat) : List.drop ((p : Nat) : Int).toNat (List.take (((p : Nat) : Int) + (x : Int)).toNat (byts b)) = byts ((b.drop p).take x) := by
  have e : (((p : Nat) : Int) + (x : Int)).toNat = p + x := by omega
  rw [e, Int.toNat_natCast]
  simp [byts, List.map_take, List.map_drop, List.drop_take]
theorem is26 : FI 26 Try.f26 := ⟨⟨Try.f26, Try.func26, rfl, rfl, rfl, rfl⟩, rfl⟩
set_option maxRecDepth 20000 in
set_option maxHeartbeats 16000000 in
theorem s_ReadBytes (b : List UInt8) (q m : Nat) (hb : b.length ≤ 1048576) (hq : q ≤ b.length) : FO 26 [Ys false b, I q, I m] [Ys false b, I q, I m] (TYo (rdB b q m)) := by
  refine fok envOk mixed is26 ⟨rfl, rfl, ?_⟩
  have hR := s_ReadVarint b q hb hq
  cases hx : rdV (b.drop q) 0 0 with
  | none =>
    rw [hx] at hR
    replace hR : FO 13 [Ys false b, I q] [Ys false b, I q] (T3 0 0 false) := hR
    rw [show rdB b q m = none by simp [rdB, hx]]
    (repeat' ((conv => whnf); first | refine stp ?_ | refine Cl.mk (hR) ?_ | refine Cl.pre (by simp only [shcLL_ints, shcLL_byts, shcLL_strs, Data.shcs, Fetc.shcs, Gran.shcs, Keyy.shcs, Mani.shcs, Name.shcs, Read.shcs, Rout.shcs, Segm.shcs, TEnt.shcs]; rfl) ?_))
    (refine Vs.Fin.mk (WkR.of ?_) (.refl _); first | exact .refl _ | exact .nils (.refl _) | exact .top (.refl _))
  | some xc =>
    obtain ⟨x, c⟩ := xc
    have hle := rdV_le _ _ _ _ _ hx
    simp at hle
    rw [hx] at hR
    replace hR : FO 13 [Ys false b, I q] [Ys false b, I q] (T3 x ((q + c : Nat) : Int) true) := hR
    have e0 : rdB b q m = if x ≤ m ∧ q + c + x ≤ b.length then some ((b.drop (q + c)).take x, q + c + x) else none := by simp [rdB, hx]
    rw [e0]
    by_cases h1 : x ≤ m
    · have f1 : decide ((x : Int) > (m : Int)) = false := by simp; omega
      by_cases h2 : q + c + x ≤ b.length
      · have f2 : decide ((x : Int) > (b.length : Int) - ((q + c : Nat) : Int)) = false := by simp; omega
        rw [if_pos ⟨h1, h2⟩]
        (repeat' ((conv => whnf); first | refine stp ?_ | refine Cl.mk (hR) ?_ | refine Cl.pre (by simp only [shcLL_ints, shcLL_byts, shcLL_strs, Data.shcs, Fetc.shcs, Gran.shcs, Keyy.shcs, Mani.shcs, Name.shcs, Read.shcs, Rout.shcs, Segm.shcs, TEnt.shcs]; rfl) ?_))
        refine Vs.Fin.mk (WkR.of (.sl1 ?_ ?_)) (.refl _)
        · rw [List.nil_append]; exact cutB b (q + c) x
        · rw [show (((q + c : Nat) : Int) + (x : Int)) = ((q + c + x : Nat) : Int) by omega]; exact .refl _
      · have f2 : decide ((x : Int) > (b.length : Int) - ((q + c : Nat) : Int)) = true := by simp; omega
        rw [if_neg (fun h => h2 h.2)]
        (repeat' ((conv => whnf); first | refine stp ?_ | refine Cl.mk (hR) ?_ | refine Cl.pre (by simp only [shcLL_ints, shcLL_byts, shcLL_strs, Data.shcs, Fetc.shcs, Gran.shcs, Keyy.shcs, Mani.shcs, Name.shcs, Read.shcs, Rout.shcs, Segm.shcs, TEnt.shcs]; rfl) ?_))
        (refine Vs.Fin.mk (WkR.of ?_) (.refl _); first | exact .refl _ | exact .nils (.refl _) | exact .top (.refl _))
    · have f1 : decide ((x : Int) > (m : Int)) = true := by simp; omega
      rw [if_neg (fun h => h1 h.1)]
      (repeat' ((conv => whnf); first | refine stp ?_ | refine Cl.mk (hR) ?_ | refine Cl.pre (by simp only [shcLL_ints, shcLL_byts, shcLL_strs, Data.shcs, Fetc.shcs, Gran.shcs, Keyy.shcs, Mani.shcs, Name.shcs, Read.shcs, Rout.shcs, Segm.shcs, TEnt.shcs]; rfl) ?_))
      (refine Vs.Fin.mk (WkR.of ?_) (.refl _); first | exact .refl _ | exact .nils (.refl _) | exact .top (.refl _))
theorem is30 : FI 30 Try.f30 := ⟨⟨Try.f30, Try.func30, rfl, rfl, rfl, rfl⟩, rfl⟩
set_option maxRecDepth 20000 in
set_option maxHeartbeats 16000000 in
theorem i_ReadBytes (b : List UInt8) (q m : Nat) (hb : b.length ≤ 1048576) (hq : q ≤ b.length) : FO 30 [Ys false b, I q, I m] [Ys false b, I q, I m] (TYo (rdB b q m)) := by
  refine fok envOk mixed is30 ⟨rfl, rfl, ?_⟩
  have hR := i_ReadVarint b q hb hq
  cases hx : rdV (b.drop q) 0 0 with
  | none =>
    rw [hx] at hR
    replace hR : FO 29 [Ys false b, I q] [Ys false b, I q] (T3 0 0 false) := hR
    rw [show rdB b q m = none by simp [rdB, hx]]
    (repeat' ((conv => whnf); first | refine stp ?_ | refine Cl.mk (hR) ?_ | refine Cl.pre (by simp only [shcLL_ints, shcLL_byts, shcLL_strs, Data.shcs, Fetc.shcs, Gran.shcs, Keyy.shcs, Mani.shcs, Name.shcs, Read.shcs, Rout.shcs, Segm.shcs, TEnt.shcs]; rfl) ?_))
    (refine Vs.Fin.mk (WkR.of ?_) (.refl _); first | exact .refl _ | exact .nils (.refl _) | exact .top (.refl _))
  | some xc =>
    obtain ⟨x, c⟩ := xc
    have hle := rdV_le _ _ _ _ _ hx
    simp at hle
    rw [hx] at hR
    replace hR : FO 29 [Ys false b, I q] [Ys false b, I q] (T3 x ((q + c : Nat) : Int) true) := hR
    have e0 : rdB b q m = if x ≤ m ∧ q + c + x ≤ b.length then some ((b.drop (q + c)).take x, q + c + x) else none := by simp [rdB, hx]
    rw [e0]
    by_cases h1 : x ≤ m
    · have f1 : decide ((x : Int) > (m : Int)) = false := by simp; omega
      by_cases h2 : q + c + x ≤ b.length
      · have f2 : decide ((x : Int) > (b.length : Int) - ((q + c : Nat) : Int)) = false := by simp; omega
        rw [if_pos ⟨h1, h2⟩]
        (repeat' ((conv => whnf); first | refine stp ?_ | refine Cl.mk (hR) ?_ | refine Cl.eq (Clone_byte ((b.drop (q + c)).take x) (by simp; omega)) (congrArg (fun z => [O (.sl false .unk 1 z)]) (cutB b (q + c) x)) ?_ | refine Cl.pre (by simp only [shcLL_ints, shcLL_byts, shcLL_strs, Data.shcs, Fetc.shcs, Gran.shcs, Keyy.shcs, Mani.shcs, Name.shcs, Read.shcs, Rout.shcs, Segm.shcs, TEnt.shcs]; rfl) ?_))
        refine Vs.Fin.mk (WkR.of (.sl1 rfl ?_)) (.refl _)
        rw [show (((q + c : Nat) : Int) + (x : Int)) = ((q + c + x : Nat) : Int) by omega]; exact .refl _
      · have f2 : decide ((x : Int) > (b.length : Int) - ((q + c : Nat) : Int)) = true := by simp; omega
        rw [if_neg (fun h => h2 h.2)]
        (repeat' ((conv => whnf); first | refine stp ?_ | refine Cl.mk (hR) ?_ | refine Cl.pre (by simp only [shcLL_ints, shcLL_byts, shcLL_strs, Data.shcs, Fetc.shcs, Gran.shcs, Keyy.shcs, Mani.shcs, Name.shcs, Read.shcs, Rout.shcs, Segm.shcs, TEnt.shcs]; rfl) ?_))
        (refine Vs.Fin.mk (WkR.of ?_) (.refl _); first | exact .refl _ | exact .nils (.refl _) | exact .top (.refl _))
    · have f1 : decide ((x : Int) > (m : Int)) = true := by simp; omega
      rw [if_neg (fun h => h1 h.1)]
      (repeat' ((conv => whnf); first | refine stp ?_ | refine Cl.mk (hR) ?_ | refine Cl.pre (by simp only [shcLL_ints, shcLL_byts, shcLL_strs, Data.shcs, Fetc.shcs, Gran.shcs, Keyy.shcs, Mani.shcs, Name.shcs, Read.shcs, Rout.shcs, Segm.shcs, TEnt.shcs]; rfl) ?_))
      (refine Vs.Fin.mk (WkR.of ?_) (.refl _); first | exact .refl _ | exact .nils (.refl _) | exact .top (.refl _))
/-- The parts of a name, read one by one. -/
def rdP (b : List UInt8) : Nat → Nat → List ByteArray → Option (List ByteArray × Nat)
  | 0, q, o => some (o, q)
  | n + 1, q, o => match rdB b q 8 with
    | none => none
    | some (l, e) => rdP b n e (o ++ [⟨l.toArray⟩])
def rdNm (b : List UInt8) (q : Nat) : Option (Name × Nat) := match rdV (b.drop q) 0 0 with
  | none => none
  | some (k, c) => if k ≤ 6 then (match rdP b k (q + c) [] with
    | none => none
    | some (ps, e) => if vName ⟨ps⟩ = true then some (⟨ps⟩, e) else none) else none
abbrev TNs (n : Name) (e : Int) (b : Bool) : Arg := (.tup [(true, 1), (false, 1), (false, 1)], [cSs true n.parts, cI e, cB b])
abbrev TNo (o : Option (Name × Nat)) : Arg := match o with
  | none => TNs ⟨[]⟩ 0 false
  | some (n, e) => TNs n e true
theorem rdP_le {b : List UInt8} : ∀ (n q : Nat) (o l : List ByteArray) (e : Nat), q ≤ b.length → rdP b n q o = some (l, e) → e ≤ b.length
  | 0, q, o, l, e, hq, h => by simp [rdP] at h; omega
  | n + 1, q, o, l, e, hq, h => by
    rw [rdP] at h
    split at h
    · cases h
    · rename_i y e1 hx
      exact rdP_le n e1 _ l e (rdB_le hx).2 h
theorem rdNm_le {b : List UInt8} {q : Nat} {n : Name} {e : Nat} (hq : q ≤ b.length) (h : rdNm b q = some (n, e)) : e ≤ b.length ∧ vName n = true := by
  unfold rdNm at h
  split at h
  · cases h
  · rename_i k c hx
    have hle := rdV_le _ _ _ _ _ hx
    simp at hle
    split at h
    · split at h
      · cases h
      · rename_i ps e1 hp
        split at h
        · rename_i hv
          simp only [Option.some.injEq, Prod.mk.injEq] at h
          obtain ⟨rfl, rfl⟩ := h
          exact ⟨rdP_le _ _ _ _ _ (by omega) hp, hv⟩
        · cases h
    · cases h
theorem sumN_le {α : Type} {g : α → Nat} {k : Nat} : ∀ {l : List α}, (∀ s ∈ l, g s ≤ k) → sumN g l ≤ k * l.length
  | [], _ => by simp [sumN]
  | x :: l, h => by
    have h1 := sumN_le (l := l) (fun s hs => h s (by simp [hs]))
    have h2 := h x (by simp)
    simp only [sumN, List.length_cons, Nat.mul_add]
    omega
theorem strs_size_le {l : List ByteArray} {k : Nat} (h : ∀ s ∈ l, s.size ≤ k) : strsSize l ≤ (k + 1) * l.length := by
  have h1 := sumN_le h
  rw [Nat.add_mul, Nat.one_mul]
  simp only [strsSize]
  omega
theorem byts_ok (l : List UInt8) : ∀ el ∈ byts l, ∃ n, el = [.v (.int .u8 n)] := by
  intro el h
  obtain ⟨x, -, rfl⟩ := List.mem_map.1 h
  exact ⟨_, rfl⟩
theorem asz (l : List UInt8) : (⟨l.toArray⟩ : ByteArray).size = l.length := rfl
theorem is14 : FI 14 Try.f14 := ⟨⟨Try.f14, Try.func14, rfl, rfl, rfl, rfl⟩, rfl⟩
set_option maxRecDepth 20000 in
set_option maxHeartbeats 16000000 in
theorem s_ReadName (b : List UInt8) (q : Nat) (hb : b.length ≤ 1048576) (hq : q ≤ b.length) : FO 14 [Ys false b, I q] [Ys false b, I q] (TNo (rdNm b q)) := by
  refine fok envOk mixed is14 ⟨rfl, rfl, ?_⟩
  have hR := s_ReadVarint b q hb hq
  cases hx : rdV (b.drop q) 0 0 with
  | none =>
    rw [hx] at hR
    replace hR : FO 13 [Ys false b, I q] [Ys false b, I q] (T3 0 0 false) := hR
    rw [show rdNm b q = none by simp [rdNm, hx]]
    (repeat' ((conv => whnf); first | refine stp ?_ | refine Cl.mk (hR) ?_ | refine Cl.pre (by simp only [shcLL_ints, shcLL_byts, shcLL_strs, Data.shcs, Fetc.shcs, Gran.shcs, Keyy.shcs, Mani.shcs, Name.shcs, Read.shcs, Rout.shcs, Segm.shcs, TEnt.shcs]; rfl) ?_))
    (refine Vs.Fin.mk (WkR.of ?_) (.refl _); first | exact .refl _ | exact .nils (.refl _) | exact .top (.refl _))
  | some xc =>
    obtain ⟨N, c⟩ := xc
    have hle := rdV_le _ _ _ _ _ hx
    simp at hle
    rw [hx] at hR
    replace hR : FO 13 [Ys false b, I q] [Ys false b, I q] (T3 N ((q + c : Nat) : Int) true) := hR
    by_cases h6 : N ≤ 6
    · have e0 : rdNm b q = (match rdP b N (q + c) [] with
        | none => none
        | some (ps, e) => if vName ⟨ps⟩ = true then some (⟨ps⟩, e) else none) := by simp [rdNm, hx, h6]
      rw [e0]
      have f1 : decide ((N : Int) > 6) = false := by simp; omega
      generalize hq0 : q + c = q0 at hR hle ⊢
      (repeat' ((conv => whnf); first | refine stp ?_ | refine Cl.mk (hR) ?_ | refine Cl.pre (by simp only [shcLL_ints, shcLL_byts, shcLL_strs, Data.shcs, Fetc.shcs, Gran.shcs, Keyy.shcs, Mani.shcs, Name.shcs, Read.shcs, Rout.shcs, Segm.shcs, TEnt.shcs]; rfl) ?_))
      refine Lp.mk [.sl 0, .bx 4, .sl 4, .sl 7, .sl 8, .bx 10, .sl 10, .sl 11] (fun m σ => ∃ p k o, rdP b N q0 [] = rdP b m p o ∧ p ≤ b.length ∧ k + m = N ∧ o.length = k ∧ (∀ s ∈ o, s.size ≤ 8) ∧ σ = [Sa 0 (Ys false b), Bx 4 ([.sl true .isnil 0 []]), Pt 4, Sa 7 (I N), Sa 8 (I p), Bx 10 ([cSs true o]), Pt 10, Sa 11 (I k)]) (N) _ (.cons (.refl _) (.cons (.refl _) (.cons (.refl _) (.cons (.refl _) (.cons (.refl _) (.cons (.nils .nil) (.cons (.refl _) (.cons (.refl _) .nil)))))))) ⟨q0, 0, [], rfl, by omega, by omega, rfl, by simp, (by first | rfl | (simp only [zlen, zsum, Nat.zero_mul, Int.add_zero, Int.sub_zero, List.nil_append, markG]; rfl))⟩ ?_
      rintro m τ ⟨p, k, o, hd, hp, hk, ho, hs, rfl⟩
      rw [hd]
      clear hd e0
      have hss := strs_size_le hs
      cases m with
      | zero =>
        rw [show rdP b 0 p o = some (o, p) from rfl]
        have f2 : decide ((k : Int) < (N : Int)) = false := by simp; omega
        have hv := s_ValidName ⟨o⟩ (by show strsSize o ≤ _; omega)
        cases hb2 : vName ⟨o⟩ with
        | true =>
          rw [hb2] at hv
          simp only [hb2, if_true]
          (repeat' ((conv => whnf); first | refine stp ?_ | refine Cl.mk (hv) ?_ | refine Cl.pre (by simp only [shcLL_ints, shcLL_byts, shcLL_strs, Data.shcs, Fetc.shcs, Gran.shcs, Keyy.shcs, Mani.shcs, Name.shcs, Read.shcs, Rout.shcs, Segm.shcs, TEnt.shcs]; rfl) ?_))
          (refine Vs.Fin.mk (WkR.of ?_) (.refl _); first | exact .refl _ | exact .nils (.refl _) | exact .top (.refl _))
        | false =>
          rw [hb2] at hv
          simp only [hb2, Bool.false_eq_true, if_false]
          (repeat' ((conv => whnf); first | refine stp ?_ | refine Cl.mk (hv) ?_ | refine Cl.pre (by simp only [shcLL_ints, shcLL_byts, shcLL_strs, Data.shcs, Fetc.shcs, Gran.shcs, Keyy.shcs, Mani.shcs, Name.shcs, Read.shcs, Rout.shcs, Segm.shcs, TEnt.shcs]; rfl) ?_))
          (refine Vs.Fin.mk (WkR.of ?_) (.refl _); first | exact .refl _ | exact .nils (.refl _) | exact .top (.refl _))
      | succ m =>
        have f2 : decide ((k : Int) < (N : Int)) = true := by simp; omega
        have hB := s_ReadBytes b p 8 hb hp
        rw [rdP]
        cases hy : rdB b p 8 with
        | none =>
          rw [hy] at hB
          (repeat' ((conv => whnf); first | refine stp ?_ | refine Cl.mk (hB) ?_ | refine Cl.pre (by simp only [shcLL_ints, shcLL_byts, shcLL_strs, Data.shcs, Fetc.shcs, Gran.shcs, Keyy.shcs, Mani.shcs, Name.shcs, Read.shcs, Rout.shcs, Segm.shcs, TEnt.shcs]; rfl) ?_))
          (refine Vs.Fin.mk (WkR.of ?_) (.refl _); first | exact .refl _ | exact .nils (.refl _) | exact .top (.refl _))
        | some le =>
          obtain ⟨l, e⟩ := le
          rw [hy] at hB
          have hle2 := rdB_le hy
          (repeat' ((conv => whnf); first | refine stp ?_ | refine Cl.mk (hB) ?_ | refine Rq.mk (byts_ok l) ?_ | refine Rq.mk (by simp; omega) ?_ | refine Cl.pre (by simp only [shcLL_ints, shcLL_byts, shcLL_strs, Data.shcs, Fetc.shcs, Gran.shcs, Keyy.shcs, Mani.shcs, Name.shcs, Read.shcs, Rout.shcs, Segm.shcs, TEnt.shcs]; rfl) ?_))
          refine Nx.intro m (by omega) _ (WkS.weak _ _) ⟨e, k + 1, o ++ [⟨l.toArray⟩], rfl, by omega, by omega, by simp; omega, ?_, ?_⟩
          · intro s hs2
            rcases List.mem_append.1 hs2 with h | h
            · exact hs s h
            · simp at h; subst h; rw [asz]; omega
          (repeat' (first | exact rfl | refine consE ?_ ?_ | refine entE ?_ | refine vI ?_ | refine vS ?_ | refine vT ?_ | refine vB ?_))
          all_goals first | (simp; done) | (rw [bytesOf_byts]; simp; done) | (simp [bytesOf_byts])
    · have f1 : decide ((N : Int) > 6) = true := by simp; omega
      rw [show rdNm b q = none by simp [rdNm, hx, h6]]
      (repeat' ((conv => whnf); first | refine stp ?_ | refine Cl.mk (hR) ?_ | refine Cl.pre (by simp only [shcLL_ints, shcLL_byts, shcLL_strs, Data.shcs, Fetc.shcs, Gran.shcs, Keyy.shcs, Mani.shcs, Name.shcs, Read.shcs, Rout.shcs, Segm.shcs, TEnt.shcs]; rfl) ?_))
      (refine Vs.Fin.mk (WkR.of ?_) (.refl _); first | exact .refl _ | exact .nils (.refl _) | exact .top (.refl _))
theorem is17 : FI 17 Try.f17 := ⟨⟨Try.f17, Try.func17, rfl, rfl, rfl, rfl⟩, rfl⟩
set_option maxRecDepth 20000 in
set_option maxHeartbeats 16000000 in
theorem i_ReadName (b : List UInt8) (q : Nat) (hb : b.length ≤ 1048576) (hq : q ≤ b.length) : FO 17 [Ys false b, I q] [Ys false b, I q] (TNo (rdNm b q)) := by
  refine fok envOk mixed is17 ⟨rfl, rfl, ?_⟩
  have hR := i_ReadVarint b q hb hq
  cases hx : rdV (b.drop q) 0 0 with
  | none =>
    rw [hx] at hR
    replace hR : FO 29 [Ys false b, I q] [Ys false b, I q] (T3 0 0 false) := hR
    rw [show rdNm b q = none by simp [rdNm, hx]]
    (repeat' ((conv => whnf); first | refine stp ?_ | refine Cl.mk (hR) ?_ | refine Cl.pre (by simp only [shcLL_ints, shcLL_byts, shcLL_strs, Data.shcs, Fetc.shcs, Gran.shcs, Keyy.shcs, Mani.shcs, Name.shcs, Read.shcs, Rout.shcs, Segm.shcs, TEnt.shcs]; rfl) ?_))
    (refine Vs.Fin.mk (WkR.of ?_) (.refl _); first | exact .refl _ | exact .nils (.refl _) | exact .top (.refl _))
  | some xc =>
    obtain ⟨N, c⟩ := xc
    have hle := rdV_le _ _ _ _ _ hx
    simp at hle
    rw [hx] at hR
    replace hR : FO 29 [Ys false b, I q] [Ys false b, I q] (T3 N ((q + c : Nat) : Int) true) := hR
    by_cases h6 : N ≤ 6
    · have e0 : rdNm b q = (match rdP b N (q + c) [] with
        | none => none
        | some (ps, e) => if vName ⟨ps⟩ = true then some (⟨ps⟩, e) else none) := by simp [rdNm, hx, h6]
      rw [e0]
      have f1 : decide ((N : Int) > 6) = false := by simp; omega
      generalize hq0 : q + c = q0 at hR hle ⊢
      (repeat' ((conv => whnf); first | refine stp ?_ | refine Cl.mk (hR) ?_ | refine Cl.pre (by simp only [shcLL_ints, shcLL_byts, shcLL_strs, Data.shcs, Fetc.shcs, Gran.shcs, Keyy.shcs, Mani.shcs, Name.shcs, Read.shcs, Rout.shcs, Segm.shcs, TEnt.shcs]; rfl) ?_))
      refine Lp.mk [.sl 0, .bx 4, .sl 4, .sl 8, .bx 10, .sl 10, .sl 29, .sl 30] (fun m σ => ∃ p k o, rdP b N q0 [] = rdP b m p o ∧ p ≤ b.length ∧ k + m = N ∧ o.length = k ∧ (∀ s ∈ o, s.size ≤ 8) ∧ σ = [Sa 0 (Ys false b), Bx 4 ([.sl true .isnil 0 []]), Pt 4, Sa 8 (I p), Bx 10 ([cSs true o]), Pt 10, Sa 29 (I N), Sa 30 (I k)]) (N) _ (.cons (.refl _) (.cons (.refl _) (.cons (.refl _) (.cons (.refl _) (.cons (.nils .nil) (.cons (.refl _) (.cons (.refl _) (.cons (.refl _) .nil)))))))) ⟨q0, 0, [], rfl, by omega, by omega, rfl, by simp, (by first | rfl | (simp only [zlen, zsum, Nat.zero_mul, Int.add_zero, Int.sub_zero, List.nil_append, markG]; rfl))⟩ ?_
      rintro m τ ⟨p, k, o, hd, hp, hk, ho, hs, rfl⟩
      rw [hd]
      clear hd e0
      have hss := strs_size_le hs
      cases m with
      | zero =>
        rw [show rdP b 0 p o = some (o, p) from rfl]
        have f2 : decide ((k : Int) < (N : Int)) = false := by simp; omega
        have hv := i_ValidName ⟨o⟩ (by show strsSize o ≤ _; omega)
        cases hb2 : vName ⟨o⟩ with
        | true =>
          rw [hb2] at hv
          simp only [hb2, if_true]
          (repeat' ((conv => whnf); first | refine stp ?_ | refine Cl.mk (hv) ?_ | refine Cl.pre (by simp only [shcLL_ints, shcLL_byts, shcLL_strs, Data.shcs, Fetc.shcs, Gran.shcs, Keyy.shcs, Mani.shcs, Name.shcs, Read.shcs, Rout.shcs, Segm.shcs, TEnt.shcs]; rfl) ?_))
          (refine Vs.Fin.mk (WkR.of ?_) (.refl _); first | exact .refl _ | exact .nils (.refl _) | exact .top (.refl _))
        | false =>
          rw [hb2] at hv
          simp only [hb2, Bool.false_eq_true, if_false]
          (repeat' ((conv => whnf); first | refine stp ?_ | refine Cl.mk (hv) ?_ | refine Cl.pre (by simp only [shcLL_ints, shcLL_byts, shcLL_strs, Data.shcs, Fetc.shcs, Gran.shcs, Keyy.shcs, Mani.shcs, Name.shcs, Read.shcs, Rout.shcs, Segm.shcs, TEnt.shcs]; rfl) ?_))
          (refine Vs.Fin.mk (WkR.of ?_) (.refl _); first | exact .refl _ | exact .nils (.refl _) | exact .top (.refl _))
      | succ m =>
        have f2 : decide ((k : Int) < (N : Int)) = true := by simp; omega
        have hB := i_ReadBytes b p 8 hb hp
        rw [rdP]
        cases hy : rdB b p 8 with
        | none =>
          rw [hy] at hB
          (repeat' ((conv => whnf); first | refine stp ?_ | refine Cl.mk (hB) ?_ | refine Cl.pre (by simp only [shcLL_ints, shcLL_byts, shcLL_strs, Data.shcs, Fetc.shcs, Gran.shcs, Keyy.shcs, Mani.shcs, Name.shcs, Read.shcs, Rout.shcs, Segm.shcs, TEnt.shcs]; rfl) ?_))
          (refine Vs.Fin.mk (WkR.of ?_) (.refl _); first | exact .refl _ | exact .nils (.refl _) | exact .top (.refl _))
        | some le =>
          obtain ⟨l, e⟩ := le
          rw [hy] at hB
          have hle2 := rdB_le hy
          (repeat' ((conv => whnf); first | refine stp ?_ | refine Cl.mk (hB) ?_ | refine Rq.mk (byts_ok l) ?_ | refine Rq.mk (by simp; omega) ?_ | refine Cl.pre (by simp only [shcLL_ints, shcLL_byts, shcLL_strs, Data.shcs, Fetc.shcs, Gran.shcs, Keyy.shcs, Mani.shcs, Name.shcs, Read.shcs, Rout.shcs, Segm.shcs, TEnt.shcs]; rfl) ?_))
          refine Nx.intro m (by omega) _ (WkS.weak _ _) ⟨e, k + 1, o ++ [⟨l.toArray⟩], rfl, by omega, by omega, by simp; omega, ?_, ?_⟩
          · intro s hs2
            rcases List.mem_append.1 hs2 with h | h
            · exact hs s h
            · simp at h; subst h; rw [asz]; omega
          (repeat' (first | exact rfl | refine consE ?_ ?_ | refine entE ?_ | refine vI ?_ | refine vS ?_ | refine vT ?_ | refine vB ?_))
          all_goals first | (simp; done) | (rw [bytesOf_byts]; simp; done) | (simp [bytesOf_byts])
    · have f1 : decide ((N : Int) > 6) = true := by simp; omega
      rw [show rdNm b q = none by simp [rdNm, hx, h6]]
      (repeat' ((conv => whnf); first | refine stp ?_ | refine Cl.mk (hR) ?_ | refine Cl.pre (by simp only [shcLL_ints, shcLL_byts, shcLL_strs, Data.shcs, Fetc.shcs, Gran.shcs, Keyy.shcs, Mani.shcs, Name.shcs, Read.shcs, Rout.shcs, Segm.shcs, TEnt.shcs]; rfl) ?_))
      (refine Vs.Fin.mk (WkR.of ?_) (.refl _); first | exact .refl _ | exact .nils (.refl _) | exact .top (.refl _))
end Go.Proofs.Ytoekfmkbkffciaa
