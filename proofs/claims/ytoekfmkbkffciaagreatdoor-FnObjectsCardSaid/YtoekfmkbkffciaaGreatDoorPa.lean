/- Contracts of functions of the program: no statement of the seat is proved here. Each under the conditions that stand in it. -/
import Derived.Test.YtoekfmkbkffciaaGreatDoorM18
import Derived.Test.YtoekfmkbkffciaaGreatDoorM5
import Derived.Test.YtoekfmkbkffciaaGreatDoorFr
import Derived.Test.YtoekfmkbkffciaaGreatDoorFj
import Derived.Test.YtoekfmkbkffciaaGreatDoorFi
set_option linter.all false
namespace Go.Proofs.YtoekfmkbkffciaaGreatDoor
open Go.Vs Go.Proofs
/-! Signing -/
def secOf (l : List Keyy) (n : Name) : Int := match l.find? (fun k => decide (k.name = n)) with
  | none => 0
  | some k => k.secret
theorem ky_len {l : List Keyy} {g : Keyy} {z : Nat} (hz : l.length + sumN Keyy.size l ≤ z) (h : g ∈ l) : g.name.parts.length ≤ z := by
  have := sumN_mem Keyy.size h
  have h2 : Keyy.size g = strsSize g.name.parts := rfl
  unfold strsSize at h2
  omega
theorem is111 : FI 111 Tryz.f111 := ⟨⟨Tryz.f111, Tryz.func111, rfl, rfl, rfl, rfl⟩, rfl⟩
set_option maxRecDepth 20000 in
set_option maxHeartbeats 16000000 in
theorem s_l9Find (l : List Keyy) (n : Name) (hz : l.length + sumN Keyy.size l ≤ 1048576) (hn : strsSize n.parts ≤ 1048576) : FO 111 [O (sl false 2 (l.map (Keyy.c false))), A (Name.c false n)] [O (sl false 2 (l.map (Keyy.c false))), A (Name.c false n)] (I (findI (fun k => decide (k.name = n)) l 0)) := by
  refine fok envOk mixed is111 ⟨rfl, rfl, ?_⟩
  have hnl := strs_len hn
  refine Lp.mk [.sl 0, .bx 3, .sl 3, .sl 5] (fun m σ => ∃ d r, l = d ++ r ∧ m = r.length ∧ d.any (fun k => decide (k.name = n)) = false ∧ σ = [Sa 0 (O (sl false 2 (l.map (Keyy.c false)))), Bx 3 ((Name.c false n)), Pt 3, Sa 5 (I d.length)]) (l.length) _ (WkS.weak _ _) ⟨[], l, rfl, rfl, rfl, (by first | rfl | (simp only [zlen, zsum, Nat.zero_mul, Int.add_zero, Int.sub_zero, List.nil_append, markG]; rfl))⟩ ?_
  rintro m τ ⟨d, r, rfl, rfl, hd, rfl⟩
  refine Nm.mk lenC ?_
  cases r with
  | nil =>
    refine Br.neg (by simp) ?_
    (repeat' ((conv => whnf); first | refine stp ?_ | refine Br.mk (fun _ => ?_) (fun _ => ?_) ))
    refine Vs.Fin.mk (WkR.eq ?_) (.refl _)
    rw [findI_none (by simpa using hd)]
  | cons x r =>
    have hx := ky_len hz (g := x) (by simp)
    simp at hz
    refine Br.pos (by simp; omega) ?_
    (repeat' ((conv => whnf); first | refine stp ?_ | refine El.mk (getA rfl) ?_ | refine Cl.mk (s_EqualNames x.name n (by omega) (by omega)) ?_ | refine Cl.pre (by simp only [shcLL_ints, shcLL_byts, shcLL_strs, Data.shcs, Fetc.shcs, Gran.shcs, Keyy.shcs, Mani.shcs, Name.shcs, Read.shcs, Rout.shcs, Segm.shcs, TEnt.shcs]; rfl) ?_))
    refine Br.mk (fun h => ?_) (fun h => ?_)
    · (repeat' ((conv => whnf); first | refine stp ?_ | refine Br.mk (fun _ => ?_) (fun _ => ?_) ))
      refine Vs.Fin.mk (WkR.eq ?_) (.refl _)
      rw [findI_at hd h]; simp
    · (repeat' ((conv => whnf); first | refine stp ?_ | refine Br.mk (fun _ => ?_) (fun _ => ?_) ))
      refine Nx.intro r.length (by simp) _ (WkS.weak _ _) ⟨d ++ [x], r, by simp, rfl, by simp_all, ?_⟩
      rw [len1]; rfl
theorem is78 : FI 78 Tryz.f78 := ⟨⟨Tryz.f78, Tryz.func78, rfl, rfl, rfl, rfl⟩, rfl⟩
set_option maxRecDepth 20000 in
set_option maxHeartbeats 16000000 in
theorem s_SecretOf (l : List Keyy) (n : Name) (hz : l.length + sumN Keyy.size l ≤ 1048576) (hn : strsSize n.parts ≤ 1048576) : FO 78 [O (sl false 2 (l.map (Keyy.c false))), A (Name.c false n)] [O (sl false 2 (l.map (Keyy.c false))), A (Name.c false n)] (I (secOf l n)) := by
  refine fok envOk mixed is78 ⟨rfl, rfl, ?_⟩
  rcases find_splitN (p := fun k : Keyy => decide (k.name = n)) l with ⟨h1, h2⟩ | ⟨d, x, r, rfl, h2, h3, h4⟩
  · have e := findI_none h1 0
    have h9 := s_l9Find l n hz hn
    rw [e] at h9
    (repeat' ((conv => whnf); first | refine stp ?_ | refine Br.mk (fun _ => ?_) (fun _ => ?_) | refine Cl.mk (h9) ?_ | refine Cl.pre (by simp only [shcLL_ints, shcLL_byts, shcLL_strs, Data.shcs, Fetc.shcs, Gran.shcs, Keyy.shcs, Mani.shcs, Name.shcs, Read.shcs, Rout.shcs, Segm.shcs, TEnt.shcs]; rfl) ?_))
    refine Vs.Fin.mk (WkR.eq ?_) (.refl _)
    simp [secOf, h2]
  · have e := findI_at h2 h3 0 (r := r)
    have h9 := s_l9Find (d ++ x :: r) n hz hn
    rw [e] at h9
    simp only [Int.zero_add] at h9
    have f1 : decide ((d.length : Int) < 0) = false := by simp
    simp at hz
    (repeat' ((conv => whnf); first | refine stp ?_ | refine Cl.mk (h9) ?_ | refine El.mk (getA rfl) ?_ | refine Cl.pre (by simp only [shcLL_ints, shcLL_byts, shcLL_strs, Data.shcs, Fetc.shcs, Gran.shcs, Keyy.shcs, Mani.shcs, Name.shcs, Read.shcs, Rout.shcs, Segm.shcs, TEnt.shcs]; rfl) ?_))
    refine Vs.Fin.mk (WkR.eq ?_) (.refl _)
    simp [secOf, h4]
theorem is54 : FI 54 Tryz.f54 := ⟨⟨Tryz.f54, Tryz.func54, rfl, rfl, rfl, rfl⟩, rfl⟩
set_option maxRecDepth 20000 in
set_option maxHeartbeats 16000000 in
theorem i_SecretOf (l : List Keyy) (n : Name) (hz : l.length + sumN Keyy.size l ≤ 1048576) (hn : strsSize n.parts ≤ 1048576) : FO 54 [O (sl false 2 (l.map (Keyy.c false))), A (Name.c false n)] [O (sl false 2 (l.map (Keyy.c false))), A (Name.c false n)] (I (secOf l n)) := by
  refine fok envOk mixed is54 ⟨rfl, rfl, ?_⟩
  have hnl := strs_len hn
  refine Nm.mk lenC ?_
  refine Lp.mk [.bx 3, .sl 3, .sl 7, .sl 8, .sl 9] (fun m σ => ∃ d r, l = d ++ r ∧ m = r.length ∧ d.any (fun k => decide (k.name = n)) = false ∧ σ = [Bx 3 ((Name.c false n)), Pt 3, Sa 7 (O (sl false 2 (l.map (Keyy.c false)))), Sa 8 (I l.length), Sa 9 (I d.length)]) (l.length) _ (WkS.weak _ _) ⟨[], l, rfl, rfl, rfl, (by first | rfl | (simp only [zlen, zsum, Nat.zero_mul, Int.add_zero, Int.sub_zero, List.nil_append, markG]; rfl))⟩ ?_
  rintro m τ ⟨d, r, rfl, rfl, hd, rfl⟩
  cases r with
  | nil =>
    refine Br.neg (by simp) ?_
    (repeat' ((conv => whnf); first | refine stp ?_ | refine Br.mk (fun _ => ?_) (fun _ => ?_) ))
    refine Vs.Fin.mk (WkR.eq ?_) (.refl _)
    have : d.find? (fun k => decide (k.name = n)) = none := by simpa using hd
    simp [secOf, this]
  | cons x r =>
    have hx := ky_len hz (g := x) (by simp)
    simp at hz
    refine Br.pos (by simp; omega) ?_
    (repeat' ((conv => whnf); first | refine stp ?_ | refine El.mk (getA rfl) ?_ | refine Cl.mk (i_EqualNames x.name n (by omega)) ?_ | refine Cl.pre (by simp only [shcLL_ints, shcLL_byts, shcLL_strs, Data.shcs, Fetc.shcs, Gran.shcs, Keyy.shcs, Mani.shcs, Name.shcs, Read.shcs, Rout.shcs, Segm.shcs, TEnt.shcs]; rfl) ?_))
    refine Br.mk (fun h => ?_) (fun h => ?_)
    · (repeat' ((conv => whnf); first | refine stp ?_ | refine Br.mk (fun _ => ?_) (fun _ => ?_) ))
      refine Vs.Fin.mk (WkR.eq ?_) (.refl _)
      have h2 : d.find? (fun k => decide (k.name = n)) = none := by simpa using hd
      have h3 : x.name = n := by simpa using h
      simp [secOf, List.find?_append, h2, h3]
    · (repeat' ((conv => whnf); first | refine stp ?_ | refine Br.mk (fun _ => ?_) (fun _ => ?_) ))
      refine Nx.intro r.length (by simp) _ (WkS.weak _ _) ⟨d ++ [x], r, by simp, rfl, by simp_all, ?_⟩
      rw [len1]; rfl
def vData (x : Data) : Bool := vName x.name && decide (0 < x.name.parts.length) && decide (x.content.length ≤ 60) && vName x.keyName && inR x.fresh 0 100000 && inR x.sig 0 2147483646
def Data.sz (x : Data) : Prop := strsSize x.name.parts ≤ 1048576 ∧ x.content.length ≤ 1048576 ∧ strsSize x.keyName.parts ≤ 1048576
theorem is79 : FI 79 Tryz.f79 := ⟨⟨Tryz.f79, Tryz.func79, rfl, rfl, rfl, rfl⟩, rfl⟩
set_option maxRecDepth 20000 in
set_option maxHeartbeats 16000000 in
theorem s_ValidData (x : Data) (hz : x.sz) : FO 79 [A (Data.c false x)] [A (Data.c false x)] (B (vData x)) := by
  refine fok envOk mixed is79 ⟨rfl, rfl, ?_⟩
  have h1 := hz.1
  have h3 := hz.2.2
  (repeat' ((conv => whnf); first | refine stp ?_ | refine Br.mk (fun _ => ?_) (fun _ => ?_) | refine Cl.mk (s_ValidName x.name (by omega)) ?_ | refine Cl.mk (s_ValidName x.keyName (by omega)) ?_ | refine Cl.mk (s_l1In _ _ _) ?_ | refine Cl.pre (by simp only [shcLL_ints, shcLL_byts, shcLL_strs, Data.shcs, Fetc.shcs, Gran.shcs, Keyy.shcs, Mani.shcs, Name.shcs, Read.shcs, Rout.shcs, Segm.shcs, TEnt.shcs]; rfl) ?_))
  all_goals (refine Vs.Fin.mk (WkR.eq ?_) (.refl _); simp_all [vData] <;> (intros; omega))
theorem is32 : FI 32 Tryz.f32 := ⟨⟨Tryz.f32, Tryz.func32, rfl, rfl, rfl, rfl⟩, rfl⟩
set_option maxRecDepth 20000 in
set_option maxHeartbeats 16000000 in
theorem i_ValidData (x : Data) (hz : x.sz) : FO 32 [A (Data.c false x)] [A (Data.c false x)] (B (vData x)) := by
  refine fok envOk mixed is32 ⟨rfl, rfl, ?_⟩
  have h1 := hz.1
  have h3 := hz.2.2
  (repeat' ((conv => whnf); first | refine stp ?_ | refine Br.mk (fun _ => ?_) (fun _ => ?_) | refine Cl.mk (i_ValidName x.name (by omega)) ?_ | refine Cl.mk (i_ValidName x.keyName (by omega)) ?_ | refine Cl.mk (i_InRange _ _ _) ?_ | refine Cl.pre (by simp only [shcLL_ints, shcLL_byts, shcLL_strs, Data.shcs, Fetc.shcs, Gran.shcs, Keyy.shcs, Mani.shcs, Name.shcs, Read.shcs, Rout.shcs, Segm.shcs, TEnt.shcs]; rfl) ?_))
  all_goals (refine Vs.Fin.mk (WkR.eq ?_) (.refl _); simp_all [vData] <;> (intros; omega))
theorem is132 : FI 132 Tryz.f132 := ⟨⟨Tryz.f132, Tryz.func132, rfl, rfl, rfl, rfl⟩, rfl⟩
set_option maxRecDepth 20000 in
set_option maxHeartbeats 16000000 in
theorem s_AppendBytes (b s : List UInt8) (hb : b.length ≤ 1048000) (hs : s.length ≤ 1048576) : FO 132 [Ys false b, Ys false s] [Ys false b, Ys false s] (Ys true (b ++ (evi s.length ++ s))) := by
  refine fok envOk mixed is132 ⟨rfl, rfl, ?_⟩
  have := evi_len s.length
  (repeat' ((conv => whnf); first | refine stp ?_ | refine Cl.mk (s_AppendVarint b s.length (by omega)) ?_ | refine Rq.mk (by simp; omega) ?_ | refine Cl.pre (by simp only [shcLL_ints, shcLL_byts, shcLL_strs, Data.shcs, Fetc.shcs, Gran.shcs, Keyy.shcs, Mani.shcs, Name.shcs, Read.shcs, Rout.shcs, Segm.shcs, TEnt.shcs]; rfl) ?_))
  refine Vs.Fin.mk (WkR.of (.sl1 ?_ .nil)) (.refl _)
  simp
theorem is128 : FI 128 Tryz.f128 := ⟨⟨Tryz.f128, Tryz.func128, rfl, rfl, rfl, rfl⟩, rfl⟩
set_option maxRecDepth 20000 in
set_option maxHeartbeats 16000000 in
theorem i_AppendBytes (b s : List UInt8) (hb : b.length ≤ 1048000) (hs : s.length ≤ 1048576) : FO 128 [Ys false b, Ys false s] [Ys false b, Ys false s] (Ys true (b ++ (evi s.length ++ s))) := by
  refine fok envOk mixed is128 ⟨rfl, rfl, ?_⟩
  have := evi_len s.length
  (repeat' ((conv => whnf); first | refine stp ?_ | refine Cl.mk (i_AppendVarint b s.length (by omega)) ?_ | refine Rq.mk (by simp; omega) ?_ | refine Cl.pre (by simp only [shcLL_ints, shcLL_byts, shcLL_strs, Data.shcs, Fetc.shcs, Gran.shcs, Keyy.shcs, Mani.shcs, Name.shcs, Read.shcs, Rout.shcs, Segm.shcs, TEnt.shcs]; rfl) ?_))
  refine Vs.Fin.mk (WkR.of (.sl1 ?_ .nil)) (.refl _)
  simp
def apSs (l : List ByteArray) : List UInt8 := l.flatMap fun s => evi s.size ++ s.data.toList
def apNm (b : List UInt8) (n : Name) : List UInt8 := if vName n then b ++ evi n.parts.length ++ apSs n.parts else b
theorem vName_b {n : Name} (h : vName n = true) : n.parts.length ≤ 6 ∧ ∀ s ∈ n.parts, s.size ≤ 8 := by
  simp [vName] at h
  refine ⟨h.2, fun s hs => ?_⟩
  have := h.1 s hs
  simp [vPart, inR_t] at this
  omega
theorem apSs_len {l : List ByteArray} (h : ∀ s ∈ l, s.size ≤ 8) : (apSs l).length ≤ 14 * l.length := by
  induction l with
  | nil => simp [apSs]
  | cons x l ih =>
    have h1 := evi_len x.size
    have h2 := h x (by simp)
    have h3 := ih (fun s hs => h s (by simp [hs]))
    have h4 := @dsz x
    simp only [apSs, List.flatMap_cons, List.length_append, List.length_cons] at h3 ⊢
    omega
theorem apNm_len (n : Name) : (apNm [] n).length ≤ 100 := by
  unfold apNm
  split
  · rename_i h
    have h2 := vName_b h
    have h3 := apSs_len h2.2
    have h4 := evi_len n.parts.length
    simp only [List.length_append, List.length_nil]
    omega
  · simp
theorem apSs_nil : apSs [] = [] := rfl
theorem apSs_snoc (l : List ByteArray) (x : ByteArray) : apSs (l ++ [x]) = apSs l ++ (evi x.size ++ x.data.toList) := by simp [apSs]
theorem dsI (s : ByteArray) : ((s.data.toList.length : Nat) : Int) = (s.size : Int) := by rw [dsz]
theorem is125 : FI 125 Tryz.f125 := ⟨⟨Tryz.f125, Tryz.func125, rfl, rfl, rfl, rfl⟩, rfl⟩
set_option maxRecDepth 20000 in
set_option maxHeartbeats 16000000 in
theorem s_AppendName (n : Name) (hn : strsSize n.parts ≤ 1048576) : FO 125 [Ys false [], A (Name.c false n)] [Ys false [], A (Name.c false n)] (Ys true (apNm [] n)) := by
  refine fok envOk mixed is125 ⟨rfl, rfl, ?_⟩
  have hnl := strs_len hn
  (repeat' ((conv => whnf); first | refine stp ?_ | refine Cl.mk (s_ValidName n (by omega)) ?_ | refine Cl.pre (by simp only [shcLL_ints, shcLL_byts, shcLL_strs, Data.shcs, Fetc.shcs, Gran.shcs, Keyy.shcs, Mani.shcs, Name.shcs, Read.shcs, Rout.shcs, Segm.shcs, TEnt.shcs]; rfl) ?_))
  refine Br.mk (fun h => ?_) (fun h => ?_)
  · (repeat' ((conv => whnf); first | refine stp ?_ | refine Br.mk (fun _ => ?_) (fun _ => ?_) ))
    refine Vs.Fin.mk (WkR.of (.sl1 ?_ .nil)) (.refl _)
    simp_all [apNm]
  have hv : vName n = true := by simpa using h
  have hb := vName_b hv
  have he := evi_len n.parts.length
  (repeat' ((conv => whnf); first | refine stp ?_ | refine Cl.mk (s_AppendVarint [] n.parts.length (by simp)) ?_ | refine Cl.pre (by simp only [shcLL_ints, shcLL_byts, shcLL_strs, Data.shcs, Fetc.shcs, Gran.shcs, Keyy.shcs, Mani.shcs, Name.shcs, Read.shcs, Rout.shcs, Segm.shcs, TEnt.shcs]; rfl) ?_))
  refine Lp.mk [.bx 3, .sl 3, .sl 5, .sl 6] (fun m σ => ∃ d r, n.parts = d ++ r ∧ m = r.length ∧ σ = [Bx 3 ((Name.c false n)), Pt 3, Sa 5 (Ys true (evi n.parts.length ++ apSs d)), Sa 6 (I d.length)]) (n.parts.length) _ (WkS.weak _ _) ⟨[], n.parts, rfl, rfl, (by first | rfl | (simp only [zlen, zsum, Nat.zero_mul, Int.add_zero, Int.sub_zero, List.nil_append, markG, List.append_nil,apSs_nil]; rfl))⟩ ?_
  rintro m τ ⟨d, r, hd, rfl, rfl⟩
  have hy : n.parts.length = d.length + r.length := by rw [hd]; simp
  have hp := apSs_len (l := d) (fun s hs => hb.2 s (by simp [hd, hs]))
  refine Nm.mk lenC ?_
  cases r with
  | nil =>
    refine Br.neg (by simp at *; omega) ?_
    (repeat' ((conv => whnf); first | refine stp ?_ | refine Br.mk (fun _ => ?_) (fun _ => ?_) ))
    refine Vs.Fin.mk (WkR.eq ?_) (.refl _)
    simp only [List.append_nil] at hd
    rw [apNm, if_pos hv, hd]; rfl
  | cons x r =>
    have h8 := hb.2 x (by simp [hd])
    have h9 := @dsz x
    simp at hy
    refine Br.pos (by simp; omega) ?_
    (repeat' ((conv => whnf); first | refine stp ?_ | refine El.mk (getH hd rfl) ?_ | refine Cl.mk (s_AppendBytes (evi n.parts.length ++ apSs d) x.data.toList (by simp only [List.length_append]; omega) (by omega)) ?_ | refine Cl.pre (by simp only [shcLL_ints, shcLL_byts, shcLL_strs, Data.shcs, Fetc.shcs, Gran.shcs, Keyy.shcs, Mani.shcs, Name.shcs, Read.shcs, Rout.shcs, Segm.shcs, TEnt.shcs]; rfl) ?_))
    refine Nx.intro r.length (by simp) _ (WkS.weak _ _) ⟨d ++ [x], r, by simp [hd], rfl, ?_⟩
    rw [len1, apSs_snoc, ← dsI, List.append_assoc]; rfl
theorem is115 : FI 115 Tryz.f115 := ⟨⟨Tryz.f115, Tryz.func115, rfl, rfl, rfl, rfl⟩, rfl⟩
set_option maxRecDepth 20000 in
set_option maxHeartbeats 16000000 in
theorem i_AppendName (n : Name) (hn : strsSize n.parts ≤ 1048576) : FO 115 [Ys false [], A (Name.c false n)] [Ys false [], A (Name.c false n)] (Ys true (apNm [] n)) := by
  refine fok envOk mixed is115 ⟨rfl, rfl, ?_⟩
  have hnl := strs_len hn
  (repeat' ((conv => whnf); first | refine stp ?_ | refine Cl.mk (i_ValidName n (by omega)) ?_ | refine Cl.pre (by simp only [shcLL_ints, shcLL_byts, shcLL_strs, Data.shcs, Fetc.shcs, Gran.shcs, Keyy.shcs, Mani.shcs, Name.shcs, Read.shcs, Rout.shcs, Segm.shcs, TEnt.shcs]; rfl) ?_))
  refine Br.mk (fun h => ?_) (fun h => ?_)
  · (repeat' ((conv => whnf); first | refine stp ?_ | refine Br.mk (fun _ => ?_) (fun _ => ?_) | refine Cl.mk (Clone_byte [] (by simp)) ?_ | refine Cl.pre (by simp only [shcLL_ints, shcLL_byts, shcLL_strs, Data.shcs, Fetc.shcs, Gran.shcs, Keyy.shcs, Mani.shcs, Name.shcs, Read.shcs, Rout.shcs, Segm.shcs, TEnt.shcs]; rfl) ?_))
    refine Vs.Fin.mk (WkR.eq ?_) (.refl _)
    simp_all [apNm]
  have hv : vName n = true := by simpa using h
  have hb := vName_b hv
  have he := evi_len n.parts.length
  (repeat' ((conv => whnf); first | refine stp ?_ | refine Cl.mk (i_AppendVarint [] n.parts.length (by simp)) ?_ | refine Cl.pre (by simp only [shcLL_ints, shcLL_byts, shcLL_strs, Data.shcs, Fetc.shcs, Gran.shcs, Keyy.shcs, Mani.shcs, Name.shcs, Read.shcs, Rout.shcs, Segm.shcs, TEnt.shcs]; rfl) ?_))
  refine Lp.mk [.sl 5, .sl 19, .sl 20, .sl 21] (fun m σ => ∃ d r, n.parts = d ++ r ∧ m = r.length ∧ σ = [Sa 5 (Ys true (evi n.parts.length ++ apSs d)), Sa 19 (O (sl false 1 (strs n.parts))), Sa 20 (I n.parts.length), Sa 21 (I d.length)]) (n.parts.length) _ (WkS.weak _ _) ⟨[], n.parts, rfl, rfl, (by first | rfl | (simp only [zlen, zsum, Nat.zero_mul, Int.add_zero, Int.sub_zero, List.nil_append, markG, List.append_nil,apSs_nil]; rfl))⟩ ?_
  rintro m τ ⟨d, r, hd, rfl, rfl⟩
  have hy : n.parts.length = d.length + r.length := by rw [hd]; simp
  have hp := apSs_len (l := d) (fun s hs => hb.2 s (by simp [hd, hs]))
  cases r with
  | nil =>
    refine Br.neg (by simp at *; omega) ?_
    (repeat' ((conv => whnf); first | refine stp ?_ | refine Br.mk (fun _ => ?_) (fun _ => ?_) ))
    refine Vs.Fin.mk (WkR.eq ?_) (.refl _)
    simp only [List.append_nil] at hd
    rw [apNm, if_pos hv, hd]; rfl
  | cons x r =>
    have h8 := hb.2 x (by simp [hd])
    have h9 := @dsz x
    simp at hy
    refine Br.pos (by simp; omega) ?_
    (repeat' ((conv => whnf); first | refine stp ?_ | refine El.mk (getH hd rfl) ?_ | refine Cl.mk (i_AppendBytes (evi n.parts.length ++ apSs d) x.data.toList (by simp only [List.length_append]; omega) (by omega)) ?_ | refine Cl.pre (by simp only [shcLL_ints, shcLL_byts, shcLL_strs, Data.shcs, Fetc.shcs, Gran.shcs, Keyy.shcs, Mani.shcs, Name.shcs, Read.shcs, Rout.shcs, Segm.shcs, TEnt.shcs]; rfl) ?_))
    refine Nx.intro r.length (by simp) _ (WkS.weak _ _) ⟨d ++ [x], r, by simp [hd], rfl, ?_⟩
    rw [len1, apSs_snoc, ← dsI, List.append_assoc]; rfl
end Go.Proofs.YtoekfmkbkffciaaGreatDoor
