/- Contracts of functions of the program: no statement of the seat is proved here. Each under the conditions that stand in it. -/
import Derived.Test.YtoekfmkbkffciaaGreatDoorM4
import Derived.Test.YtoekfmkbkffciaaGreatDoorPa
import Derived.Test.YtoekfmkbkffciaaGreatDoorPb
import Derived.Test.YtoekfmkbkffciaaGreatDoorM16
set_option linter.all false
namespace Go.Proofs.YtoekfmkbkffciaaGreatDoor
open Go.Vs Go.Proofs
/-! Keys: which are valid -/
def vKey (k : Keyy) : Bool := vName k.name && decide (0 < k.name.parts.length) && inR k.secret 1 2147483646
def clash (k o : Keyy) : Bool := decide (o.name = k.name) || decide (o.secret = k.secret)
def vKG : List Keyy → List Keyy → Bool
  | _, [] => true
  | d, k :: r => (vKey k && !d.any (clash k)) && vKG (d ++ [k]) r
def vKeys (l : List Keyy) : Bool := vKG [] l && decide (l.length ≤ 8)
theorem vKeys_no {l d r : List Keyy} {x : Keyy} (h : vKG [] l = vKG d (x :: r)) (hx : (vKey x && !d.any (clash x)) = false) : vKeys l = false := by
  simp only [vKeys, h, vKG, hx, Bool.false_and]
theorem vKG_mem : ∀ {r d : List Keyy}, vKG d r = true → ∀ k ∈ r, vKey k = true
  | [], _, _, k, hk => by cases hk
  | x :: r, d, h, k, hk => by
    simp only [vKG, Bool.and_eq_true] at h
    rcases List.mem_cons.1 hk with rfl | hk
    · exact h.1.1
    · exact vKG_mem h.2 k hk
theorem vKeys_mem {l : List Keyy} (h : vKeys l = true) {k : Keyy} (hk : k ∈ l) : vKey k = true := by
  simp only [vKeys, Bool.and_eq_true] at h
  exact vKG_mem h.1 k hk
theorem ky_all {l : List Keyy} {k : Keyy} {z : Nat} (hz : l.length + sumN Keyy.size l ≤ z) (h : k ∈ l) : strsSize k.name.parts ≤ z ∧ k.name.parts.length ≤ z := by
  have := sumN_mem Keyy.size h
  have h2 : Keyy.size k = strsSize k.name.parts := rfl
  have h3 : k.name.parts.length ≤ strsSize k.name.parts := by unfold strsSize; omega
  omega
theorem ky_pre {d r : List Keyy} {z : Nat} (h : (d ++ r).length + sumN Keyy.size (d ++ r) ≤ z) : d.length + sumN Keyy.size d ≤ z := by
  rw [sumN_append] at h; simp at h; omega
theorem takeK {α : Type} {c : α → List AV} {d r : List α} : (((d ++ r).map c).take ((d.length : Nat) : Int).toNat).drop (0 : Int).toNat = d.map c := by simp
theorem is117 : FI 117 Tryz.f117 := ⟨⟨Tryz.f117, Tryz.func117, rfl, rfl, rfl, rfl⟩, rfl⟩
set_option maxRecDepth 20000 in
set_option maxHeartbeats 16000000 in
theorem i_ValidSecret (k : Int) : FO 117 [I k] [I k] (B (inR k 1 2147483646)) := by
  refine fok envOk mixed is117 ⟨rfl, rfl, ?_⟩
  (repeat' ((conv => whnf); first | refine stp ?_ | refine Cl.mk (i_InRange _ _ _) ?_ | refine Cl.pre (by simp only [shcLL_ints, shcLL_byts, shcLL_strs, Data.shcs, Fetc.shcs, Gran.shcs, Keyy.shcs, Mani.shcs, Name.shcs, Read.shcs, Rout.shcs, Segm.shcs, TEnt.shcs]; rfl) ?_))
  exact Vs.Fin.mk (WkR.refl _) (.refl _)
theorem any_find {x : Keyy} {d : List Keyy} (h : d.any (fun o => decide (o.name = x.name)) = true) : d.any (clash x) = true := by
  rw [List.any_eq_true] at h ⊢
  obtain ⟨o, ho, h⟩ := h
  exact ⟨o, ho, by simp at h; simp [clash, h]⟩
theorem any_split {x : Keyy} {d : List Keyy} (h : d.any (fun o => decide (o.name = x.name)) = false) (h2 : d.any (fun o => decide (o.secret = x.secret)) = false) : d.any (clash x) = false := by
  rw [List.any_eq_false] at h h2 ⊢
  intro o ho
  have h3 := h o ho
  have h4 := h2 o ho
  simp at h3 h4
  simp [clash, h3, h4]
/-! Publishing -/
theorem strs_small {l : List ByteArray} (h : ∀ s ∈ l, s.size ≤ 8) : strsSize l ≤ 9 * l.length := by
  induction l with
  | nil => simp [strsSize, sumN]
  | cons x l ih =>
    have h1 := h x (by simp)
    have h2 := ih (fun s hs => h s (by simp [hs]))
    simp only [strsSize, sumN, List.length_cons] at h2 ⊢
    omega
theorem vName_sz {n : Name} (h : vName n = true) : strsSize n.parts ≤ 54 := by
  have h1 := vName_b h
  have h2 := strs_small h1.2
  omega
theorem apZero_sz {n : Name} {s : ByteArray} : strsSize (apZero n s).parts ≤ 54 := by
  unfold apZero
  split
  · rename_i h; exact vName_sz h
  · exact Nat.zero_le _
theorem segN_sz {n : Name} {i : Int} : strsSize (segN n i).parts ≤ 54 := by
  unfold segN
  split
  · rename_i h
    simp only [segO, Bool.and_eq_true] at h
    exact vName_sz h.2
  · exact Nat.zero_le _
theorem segAt_len {b : List UInt8} {p : Mani} {i : Int} (h : b.length ≤ 1048576) : (segAt b p i).length ≤ 1048576 := by
  unfold segAt
  split
  · simp only [cut, List.length_take, List.length_drop]; omega
  · simp
def encM (p : Mani) : List UInt8 := if vMani p then encs (p.seg :: p.len :: p.dig) else []
def pubI (l : List Keyy) (key n : Name) (b : List UInt8) (p : Mani) (till : Int) (i : Nat) : Data := swkR l key (segN n i) (segAt b p i) till
def pubO (l : List Keyy) (key n : Name) (b : List UInt8) (p : Mani) (till : Int) (i : Nat) : Bool := segO n i && swkO l key (segN n i) (segAt b p i) till
def pubL (l : List Keyy) (key n : Name) (b : List UInt8) (p : Mani) (till : Int) (k : Nat) : List Data := swkR l key (apZero n plan) (encM p) till :: (List.range k).map (pubI l key n b p till)
theorem pubL_len (l : List Keyy) (key n : Name) (b : List UInt8) (p : Mani) (till : Int) (k : Nat) : (pubL l key n b p till k).length = k + 1 := by simp [pubL]
theorem pubL_succ (l : List Keyy) (key n : Name) (b : List UInt8) (p : Mani) (till : Int) (k : Nat) : pubL l key n b p till (k + 1) = pubL l key n b p till k ++ [pubI l key n b p till k] := by simp [pubL, List.range_succ]
def pub0 (l : List Keyy) (key n : Name) (p : Mani) (till : Int) : Bool := !decide (p.seg = 0) && vName ⟨n.parts ++ [plan]⟩ && swkO l key (apZero n plan) (encM p) till
def pubB (l : List Keyy) (key n : Name) (b : List UInt8) (p : Mani) (till : Int) : Bool := pub0 l key n p till && (List.range p.dig.length).all (pubO l key n b p till)
def pubR (l : List Keyy) (key n : Name) (b : List UInt8) (p : Mani) (till : Int) : List Data := if pubB l key n b p till then pubL l key n b p till p.dig.length else []
theorem pubR_no0 {l : List Keyy} {key n : Name} {b : List UInt8} {p : Mani} {till : Int} (h : pub0 l key n p till = false) : pubB l key n b p till = false ∧ pubR l key n b p till = [] := by simp [pubR, pubB, h]
theorem pubR_no {l : List Keyy} {key n : Name} {b : List UInt8} {p : Mani} {till : Int} {i : Nat} (hi : i < p.dig.length) (h : pubO l key n b p till i = false) : pubB l key n b p till = false ∧ pubR l key n b p till = [] := by
  have : pubB l key n b p till = false := by
    unfold pubB
    rw [Bool.and_eq_false_iff]; right
    rw [List.all_eq_false]
    exact ⟨i, by simpa using hi, by simp [h]⟩
  exact ⟨this, by simp [pubR, this]⟩
theorem pubR_yes {l : List Keyy} {key n : Name} {b : List UInt8} {p : Mani} {till : Int} (h : pub0 l key n p till = true) (h2 : ∀ i, i < p.dig.length → pubO l key n b p till i = true) : pubB l key n b p till = true ∧ pubR l key n b p till = pubL l key n b p till p.dig.length := by
  have : pubB l key n b p till = true := by
    unfold pubB
    rw [h, Bool.true_and, List.all_eq_true]
    intro i hi
    exact h2 i (by simpa using hi)
  exact ⟨this, by simp [pubR, this]⟩
abbrev LB (l : List Data) (b : Bool) : Arg := (.tup [(false, 1), (false, 1)], [sl true 5 (l.map (Data.c true)), cB b])
theorem is7 : FI 7 Tryz.f7 := ⟨⟨Tryz.f7, Tryz.func7, rfl, rfl, rfl, rfl⟩, rfl⟩
set_option maxRecDepth 20000 in
set_option maxHeartbeats 16000000 in
theorem i_PublishSegments (l : List Keyy) (key n : Name) (b : List UInt8) (size till : Int) (hl : l.length + sumN Keyy.size l ≤ 1048576) (hk : strsSize key.parts ≤ 1048576) (hn : strsSize n.parts ≤ 1048576) (hb : b.length ≤ 1048576) : FO 7 [O (sl false 2 (l.map (Keyy.c false))), A (Name.c false key), A (Name.c false n), Ys false b, I size, I till] [O (sl false 2 (l.map (Keyy.c false))), A (Name.c false key), A (Name.c false n), Ys false b, I size, I till] (LB (pubR l key n b (mkMani b size) till) (pubB l key n b (mkMani b size) till)) := by
  refine fok envOk mixed is7 ⟨rfl, rfl, ?_⟩
  have hM := i_MakeManifest b size hb
  have hdl : (mkMani b size).dig.length ≤ 1048576 := by have := mkMani_size (b := b) (z := size) hb; simpa [Mani.size] using this
  generalize mkMani b size = p at hM hdl
  have hE := i_EncodeManifest p hdl
  have hel := encM_len p
  rw [show (if vMani p then encs (p.seg :: p.len :: p.dig) else []) = encM p from rfl] at hE hel
  have hz0 := @apZero_sz n plan
  have hS := i_SignWithKey l key (apZero n plan) (encM p) till hl hk (by omega) hel
  have hP : pub0 l key n p till = (!decide (p.seg = 0) && vName ⟨n.parts ++ [plan]⟩ && swkO l key (apZero n plan) (encM p) till) := rfl
  have hN := i_ManifestName n hn
  generalize vName ⟨n.parts ++ [plan]⟩ = v1 at hN hP
  generalize swkO l key (apZero n plan) (encM p) till = v2 at hS hP
  by_cases hp0 : pub0 l key n p till = true
  case neg =>
    have h0 := pubR_no0 (b := b) (show pub0 l key n p till = false by simpa using hp0)
    rw [h0.1, h0.2]
    (repeat' ((conv => whnf); first | refine stp ?_ | refine Br.mk (fun _ => ?_) (fun _ => ?_) | refine Cl.mk (hM) ?_ | refine Cl.mk (hN) ?_ | refine Cl.mk (hE) ?_ | refine Cl.mk (hS) ?_ | refine Cl.pre (by simp only [shcLL_ints, shcLL_byts, shcLL_strs, Data.shcs, Fetc.shcs, Gran.shcs, Keyy.shcs, Mani.shcs, Name.shcs, Read.shcs, Rout.shcs, Segm.shcs, TEnt.shcs]; rfl) ?_))
    all_goals first
      | exact Vs.Fin.mk (WkR.of (.sl1 rfl (.refl _))) (.refl _)
      | exact Vs.Fin.mk (WkR.of (.nils (.refl _))) (.refl _)
      | (exfalso; apply hp0; rw [hP]; simp_all; done)
  have hs : p.seg ≠ 0 ∧ v1 = true ∧ v2 = true := by rw [hP] at hp0; simpa [and_assoc] using hp0
  obtain ⟨hs, rfl, rfl⟩ := hs
  have f1 : decide (p.seg = 0) = false := by simpa using hs
  (repeat' ((conv => whnf); first | refine stp ?_ | refine Cl.mk (hM) ?_ | refine Cl.mk (hN) ?_ | refine Cl.mk (hE) ?_ | refine Cl.mk (hS) ?_ | refine Cl.pre (by simp only [shcLL_ints, shcLL_byts, shcLL_strs, Data.shcs, Fetc.shcs, Gran.shcs, Keyy.shcs, Mani.shcs, Name.shcs, Read.shcs, Rout.shcs, Segm.shcs, TEnt.shcs]; rfl) ?_))
  refine Lp.mk [.sl 0, .sl 3, .sl 5, .bx 7, .sl 7, .bx 8, .sl 8, .bx 14, .sl 14, .sl 19, .sl 58, .sl 59] (fun m σ => ∃ i, i + m = p.dig.length ∧ (∀ j, j < i → pubO l key n b p till j = true) ∧ σ = [Sa 0 (O (sl false 2 (l.map (Keyy.c false)))), Sa 3 (Ys false b), Sa 5 (I till), Bx 7 ((Name.c false key)), Pt 7, Bx 8 ((Name.c false n)), Pt 8, Bx 14 ([cI p.seg, cI p.len, cIs true p.dig]), Pt 14, Sa 19 (O (.sl true .non 5 ((pubL l key n b p till i).map (Data.c true)))), Sa 58 (I p.dig.length), Sa 59 (I i)]) (p.dig.length) _ (WkS.weak _ _) ⟨0, by simp, by omega, (by first | rfl | (simp only [zlen, zsum, Nat.zero_mul, Int.add_zero, Int.sub_zero, List.nil_append, markG]; rfl))⟩ ?_
  rintro m τ ⟨i, hi, hok, rfl⟩
  have hpl := pubL_len l key n b p till i
  refine Br.dec (fun h => ?_) (fun h => ?_)
  · have hzi := @segN_sz n i
    have hsl := @segAt_len b p i hb
    have hS := i_SignWithKey l key (segN n i) (segAt b p i) till hl hk (by omega) hsl
    have hPO : pubO l key n b p till i = (segO n i && swkO l key (segN n i) (segAt b p i) till) := rfl
    have hPI : pubI l key n b p till i = swkR l key (segN n i) (segAt b p i) till := rfl
    have hG := i_SegmentName n i hn
    generalize segO n i = v3 at hG hPO
    generalize swkO l key (segN n i) (segAt b p i) till = v4 at hS hPO
    by_cases h5 : pubO l key n b p till i = true
    case neg =>
      have h0 := pubR_no (b := b) (i := i) (p := p) (by omega) (show pubO l key n b p till i = false by simpa using h5)
      rw [h0.1, h0.2]
      (repeat' ((conv => whnf); first | refine stp ?_ | refine Br.mk (fun _ => ?_) (fun _ => ?_) | refine Cl.mk (hG) ?_ | refine Cl.mk (i_SegmentAt b p i hdl hb) ?_ | refine Cl.mk (hS) ?_ | refine Cl.pre (by simp only [shcLL_ints, shcLL_byts, shcLL_strs, Data.shcs, Fetc.shcs, Gran.shcs, Keyy.shcs, Mani.shcs, Name.shcs, Read.shcs, Rout.shcs, Segm.shcs, TEnt.shcs]; rfl) ?_))
      all_goals first
        | exact Vs.Fin.mk (WkR.of (.sl1 rfl (.refl _))) (.refl _)
        | exact Vs.Fin.mk (WkR.of (.nils (.refl _))) (.refl _)
        | (exfalso; apply h5; rw [hPO]; simp_all; done)
    have hs2 : v3 = true ∧ v4 = true := by rw [hPO] at h5; simpa using h5
    obtain ⟨rfl, rfl⟩ := hs2
    (repeat' ((conv => whnf); first | refine stp ?_ | refine Cl.mk (hG) ?_ | refine Cl.mk (i_SegmentAt b p i hdl hb) ?_ | refine Cl.mk (hS) ?_ | refine Rq.mk (by simp; omega) ?_ | refine Cl.pre (by simp only [shcLL_ints, shcLL_byts, shcLL_strs, Data.shcs, Fetc.shcs, Gran.shcs, Keyy.shcs, Mani.shcs, Name.shcs, Read.shcs, Rout.shcs, Segm.shcs, TEnt.shcs]; rfl) ?_))
    refine Nx.intro (m - 1) (by omega) _ (WkS.weak _ _) ⟨i + 1, by omega, ?_, ?_⟩
    · intro j hj
      rcases Nat.lt_succ_iff_lt_or_eq.1 hj with h6 | rfl
      · exact hok j h6
      · exact h5
    · (repeat' (first | exact rfl | refine consE ?_ ?_ | refine entE ?_ | refine vI ?_ | refine vS ?_ | refine vT ?_ | refine vB ?_))
      all_goals simp [List.range_succ, hPI]
  · obtain rfl : i = p.dig.length := by omega
    have h0 := pubR_yes (b := b) hp0 hok
    rw [h0.1, h0.2]
    (repeat' ((conv => whnf); first | refine stp ?_ ))
    exact Vs.Fin.mk (WkR.of (.sl1 rfl (.refl _))) (.refl _)
theorem swkR_sz (l : List Keyy) (key n : Name) (b : List UInt8) (till : Int) : Data.size (swkR l key n b till) ≤ 168 := by
  unfold swkR
  split
  · rename_i h
    simp only [swkO, vData, Bool.and_eq_true, decide_eq_true_eq] at h
    obtain ⟨_, ⟨⟨⟨⟨h1, _⟩, h3⟩, h4⟩, _⟩, _⟩ := h
    have h5 := vName_sz h1
    have h6 := vName_sz h4
    show strsSize (swk l key n b till).name.parts + (swk l key n b till).content.length + strsSize (swk l key n b till).keyName.parts ≤ 168
    omega
  · exact Nat.zero_le _
theorem sum168 {l : List Data} (h : ∀ x ∈ l, Data.size x ≤ 168) : sumN Data.size l ≤ 168 * l.length := by
  induction l with
  | nil => simp [sumN]
  | cons x l ih =>
    have h1 := h x (by simp)
    have h2 := ih (fun s hs => h s (by simp [hs]))
    simp only [sumN, List.length_cons]
    omega
theorem pubR_size (l : List Keyy) (key n : Name) (b : List UInt8) (size till : Int) (hb : b.length ≤ 1048576) : (pubR l key n b (mkMani b size) till).length + sumN Data.size (pubR l key n b (mkMani b size) till) ≤ 1048576000 := by
  have hdl : (mkMani b size).dig.length ≤ 1048576 := by have := mkMani_size (b := b) (z := size) hb; simpa [Mani.size] using this
  have h : ∀ x ∈ pubR l key n b (mkMani b size) till, Data.size x ≤ 168 := by
    intro x hx
    unfold pubR pubL at hx
    split at hx
    · rcases List.mem_cons.1 hx with rfl | hx
      · exact swkR_sz ..
      · obtain ⟨i, _, rfl⟩ := List.mem_map.1 hx
        exact swkR_sz ..
    · cases hx
  have h2 := sum168 h
  have h3 : (pubR l key n b (mkMani b size) till).length ≤ 1048577 := by
    unfold pubR
    split
    · rw [pubL_len]; omega
    · simp
  omega
theorem sh_resN {f : Nat} {args outs : List Arg} {s : Shape} {vs : List AV} (h : FO f args outs (s, vs)) : FO f args outs (s, shcL vs) := FOk.wk h (.refl _) (.refl _) ⟨rfl, .inr (WkL.refl _)⟩
theorem sh_Nm {f : Nat} {args outs : List Arg} {n : Name} (h : FO f args outs (A (Name.c true n))) : FO f args outs (A (Name.c false n)) := by
  have := sh_resN h
  rwa [Name.shc] at this
abbrev Ks (o : Bool) (l : List Keyy) : Arg := O (sl o 2 (l.map (Keyy.c false)))
abbrev KB (l : List Keyy) (b : Bool) : Arg := (.tup [(false, 1), (false, 1)], [sl true 2 (l.map (Keyy.c false)), cB b])
def addK (l : List Keyy) (k : Keyy) : List Keyy := if vKeys (l ++ [k]) then l ++ [k] else l
theorem addK_size (l : List Keyy) (k : Keyy) : (addK l k).length + sumN Keyy.size (addK l k) ≤ l.length + sumN Keyy.size l + 1 + Keyy.size k := by
  unfold addK
  split
  · rw [sumN_snoc]; simp; omega
  · omega
theorem shcLL_K (l : List Keyy) : shcLL (l.map (Keyy.c false)) = l.map (Keyy.c false) := shcLL_map (fun _ => rfl) l
def sKeyA : ByteArray := ⟨#[47, 107, 101, 121, 47, 97]⟩
def sKeyB : ByteArray := ⟨#[47, 107, 101, 121, 47, 98]⟩
def sZz : ByteArray := ⟨#[47, 122, 122]⟩
def rings4 : List ByteArray := [⟨#[47, 97, 47, 107, 101, 121]⟩, ⟨#[47, 98, 47, 107, 101, 121]⟩, ⟨#[47, 110, 101, 119, 115, 47, 107, 101, 121]⟩, ⟨#[47, 107, 101, 121, 47, 99]⟩]
theorem rings4_size : ∀ s ∈ rings4, s.size ≤ 9 := by decide
def ring0 : List Keyy := [⟨pN sKeyA, 100⟩, ⟨pN sKeyB, 101⟩]
theorem pN_key {s : ByteArray} {x : Int} : Keyy.size ⟨pN s, x⟩ ≤ 54 := pN_sz s
end Go.Proofs.YtoekfmkbkffciaaGreatDoor
