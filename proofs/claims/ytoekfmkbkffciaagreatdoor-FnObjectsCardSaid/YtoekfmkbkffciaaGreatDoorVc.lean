/- A layer of symbolic stepping over values, proved sound against the model: no statement of the seat is proved here. No condition. -/
import Derived.Test.YtoekfmkbkffciaaGreatDoorVb
import Derived.KernelRfl
import Derived.ProofKit
import Derived.ReadAgain
import Derived.OpenShut
import Derived.Stop.Joined
set_option linter.all false
namespace Go.Vs

variable {C : Ctx} {σ : St} {a : Act} {w w' : World} {W : Wit} {P : Program} {cr : CallR} {Γ : Env}
variable [HT : TabFact C P]

def Lst (listed : Array Bool) (i : Nat) : Prop := listed.getD i false = true

theorem Lst.set {listed : Array Bool} {i : Nat} (hi : i < listed.size) (k : Nat) : Lst (listed.setIfInBounds i true) k ↔ k = i ∨ Lst listed k := by
  unfold Lst
  by_cases h : i = k
  · subst h; simp [hi]
  · have hk : k ≠ i := fun e => h e.symm
    rw [getD_set_ne false h]; simp [hk]

theorem mem_ready' {ops : Array Oper} {listed : Array Bool} (hsz : listed.size = ops.size) {i : Nat} : i ∈ Region.ready .any ops listed ↔ ∃ o, ops[i]? = some o ∧ ¬ Lst listed i ∧ ∀ e ∈ edgesOf o, Lst listed e := by
  rw [mem_ready]
  constructor
  · rintro ⟨h0, o, ho, hall⟩
    refine ⟨o, ho, ?_, ?_⟩
    · unfold Lst
      have hlt : i < listed.size := by rw [hsz]; exact (Array.getElem?_eq_some_iff.1 ho).1
      simp [hlt] at h0 ⊢
      exact h0
    · intro e he
      unfold edgesOf at he
      simp only [List.mem_map, List.mem_filter] at he
      obtain ⟨e', ⟨h1, h2⟩, rfl⟩ := he
      exact hall e' (by simpa using h1) h2
  · rintro ⟨o, ho, h0, hall⟩
    have hlt : i < listed.size := by rw [hsz]; exact (Array.getElem?_eq_some_iff.1 ho).1
    refine ⟨?_, o, ho, fun e he hb => hall e.on ?_⟩
    · unfold Lst at h0
      simp [hlt] at h0 ⊢
      exact h0
    · unfold edgesOf
      simp only [List.mem_map, List.mem_filter]
      exact ⟨e, ⟨by simpa using he, hb⟩, rfl⟩

theorem wpAny_run (hΓ : EnvOk P Γ) {ops : Array Oper} {Q : Exit → Act → World → Prop} {N : Nat} (hd : ∀ o ∈ ops, ∀ t, o.dst = some t → t < N) {s : Nat → St} {lgs : List Log}
    (hrun : ∀ (i : Nat) (o : Oper), ops[i]? = some o → ∃ cr lg, lgs[i]? = some lg ∧ (opG Γ ops.toList o).run P cr (s i) = some ((), s (i + 1), lg))
    (hord : orderOk ops.toList lgs = true)
    (hQ : ∀ a' w' W', SR C (s ops.size) a' w' W' → W'.hand = [] → a'.tmps.size = N → Q .normal a' w') :
    ∀ (fuel : Nat) (listed : Array Bool) (σ : St) (a : Act) (w : World) (W : Wit) (U : List Nat), listed.size = ops.size → SR C σ a w W → W.hand = [] → a.tmps.size = N →
      (∀ i, i < ops.size → ¬ Lst listed i → i ∈ U) → U.length ≤ fuel → (∀ (i : Nat) (o : Oper), ops[i]? = some o → Lst listed i → ∀ e ∈ edgesOf o, Lst listed e) →
      (∀ (r : Rs) (m : Nat), m ≤ ops.size → (∀ (i : Nat) (l : Log), lgs[i]? = some l → writes l r → i < ops.size → (Lst listed i ↔ i < m)) → σ.get r = (s m).get r) →
      wpAny P .any ops Q fuel listed a w := by
  have hspec := fun (j : Nat) (o : Oper) (hj : ops[j]? = some o) => orderFrom_spec (done := []) (n := 0) rfl hord j o (by simpa using hj)
  -- nothing is written between
  have hframe : ∀ (r : Rs) (m k : Nat), m + k ≤ ops.size → (∀ (i : Nat) (l : Log), lgs[i]? = some l → m ≤ i → i < m + k → ¬ writes l r) → (s (m + k)).get r = (s m).get r := by
    intro r m k
    induction k with
    | zero => intro _ _; rfl
    | succ k ih =>
      intro hle hno
      have hlt : m + k < ops.size := by omega
      obtain ⟨cr, lg, h1, h2⟩ := hrun (m + k) ops[m + k] (by simp [hlt])
      rw [show m + (k + 1) = m + k + 1 by omega, run_frame _ h2 r (hno (m + k) lg h1 (by omega) (by omega))]
      exact ih (by omega) fun i l hi h3 h4 => hno i l hi h3 (by omega)
  have hclosed : ∀ (listed : Array Bool), (∀ (i : Nat) (o : Oper), ops[i]? = some o → Lst listed i → ∀ e ∈ edgesOf o, Lst listed e) → ∀ (j : Nat) (ws : List Nat), (waits [] ops.toList)[j]? = some ws → Lst listed j → ∀ k ∈ ws, Lst listed k := by
    intro listed hdc
    refine waits_closed (L := Lst listed) (acc := []) (ops := ops.toList) ?_ (by simp)
    intro j o hj hL e he
    exact hdc j o (by simpa using hj) (by simpa using hL) e he
  have hall : ∀ (listed : Array Bool), listed.size = ops.size → Region.ready .any ops listed = [] → ∀ i, i < ops.size → Lst listed i := by
    intro listed hsz hr i
    induction i using Nat.strongRecOn with
    | _ i ih =>
      intro hlt
      apply Classical.byContradiction
      intro hnot
      have : i ∈ Region.ready .any ops listed := by
        rw [mem_ready' hsz]
        obtain ⟨ws, lg, -, -, h3, -⟩ := hspec i ops[i] (by simp [hlt])
        exact ⟨ops[i], by simp [hlt], hnot, fun e he => ih e (by have := h3 e he; omega) (by have := h3 e he; omega)⟩
      rw [hr] at this
      cases this
  have hdone : ∀ (listed : Array Bool) (σ : St) (a : Act) (w : World) (W : Wit), (∀ i, i < ops.size → Lst listed i) → SR C σ a w W → W.hand = [] → a.tmps.size = N →
      (∀ (r : Rs) (m : Nat), m ≤ ops.size → (∀ (i : Nat) (l : Log), lgs[i]? = some l → writes l r → i < ops.size → (Lst listed i ↔ i < m)) → σ.get r = (s m).get r) → Q .normal a w := by
    intro listed σ a w W hL h hh hs hst
    refine hQ a w W (h.congr fun r => ?_) hh hs
    exact (hst r ops.size (Nat.le_refl _) fun i l _ _ hi => ⟨fun _ => hi, fun _ => hL i hi⟩).symm
  intro fuel
  induction fuel with
  | zero =>
    intro listed σ a w W U hsz h hh hs hU hlen hdc hst
    have hL : ∀ i, i < ops.size → Lst listed i := by
      intro i hi
      apply Classical.byContradiction
      intro hn
      have := hU i hi hn
      have h0 : U = [] := List.eq_nil_of_length_eq_zero (by omega)
      rw [h0] at this; cases this
    refine ⟨?_, hdone listed σ a w W hL h hh hs hst⟩
    apply List.eq_nil_iff_forall_not_mem.2
    intro i hi
    rw [mem_ready' hsz] at hi
    obtain ⟨o, ho, hn, _⟩ := hi
    exact hn (hL i (Array.getElem?_eq_some_iff.1 ho).1)
  | succ fuel ih =>
    intro listed σ a w W U hsz h hh hs hU hlen hdc hst
    refine ⟨fun hr => hdone listed σ a w W (hall listed hsz hr) h hh hs hst, fun i hi => ?_⟩
    rw [mem_ready' hsz] at hi
    obtain ⟨o, ho, hni, hei⟩ := hi
    have hilt : i < ops.size := (Array.getElem?_eq_some_iff.1 ho).1
    have hil : i < listed.size := by rw [hsz]; exact hilt
    have hLs := Lst.set (listed := listed) hil
    obtain ⟨cr, lg, h1, h2⟩ := hrun i o ho
    obtain ⟨ws, lg', g1, g2, g3, g4⟩ := hspec i o ho
    rw [h1] at g2; cases g2
    have hdc' : ∀ (k : Nat) (o' : Oper), ops[k]? = some o' → Lst (listed.setIfInBounds i true) k → ∀ e ∈ edgesOf o', Lst (listed.setIfInBounds i true) e := by
      intro k o' hk hL e he
      rw [hLs] at hL ⊢
      rcases hL with rfl | hL
      · rw [ho] at hk; cases hk
        exact .inr (hei e he)
      · exact .inr (hdc k o' hk hL e he)
    have hwi : ∀ k ∈ ws, k ≠ i → Lst listed k := by
      intro k hk hne
      have := hclosed _ hdc' i ws g1 ((hLs i).2 (.inl rfl)) k hk
      exact ((hLs k).1 this).resolve_left hne
    -- a later one that conflicts is not listed
    have hlater : ∀ (k : Nat) (l : Log) (r : Rs) (b b' : Bool), lgs[k]? = some l → k < ops.size → i < k → (b, r) ∈ lg → (b', r) ∈ l → (b || b') = true → ¬ Lst listed k := by
      intro k l r b b' hk hkl hik hb hb' hor hL
      obtain ⟨ws', lg', q1, q2, q3, q4⟩ := hspec k ops[k] (by simp [hkl])
      rw [hk] at q2; cases q2
      have hc : conflict lg l = true := by
        cases hcf : conflict lg l with
        | true => rfl
        | false =>
          obtain ⟨rfl, rfl⟩ := conflict_false hcf hb hb'
          cases hor
      exact hni (hclosed listed hdc k ws' q1 hL i (q4 i lg (by simpa using h1) (by omega) hc))
    have hag : ∀ r, touches lg r → σ.get r = (s i).get r := by
      rintro r ⟨b, hb⟩
      refine hst r i (by omega) fun k l hk hwr hkl => ⟨fun hL => ?_, fun hlt => ?_⟩
      · rcases Nat.lt_trichotomy k i with h3 | h3 | h3
        · exact h3
        · exact absurd (h3 ▸ hL) hni
        · exact absurd hL (hlater k l r b true hk hkl h3 hb hwr (by simp))
      · have hc : conflict l lg = true := by
          cases hcf : conflict l lg with
          | true => rfl
          | false =>
            have := (conflict_false hcf hwr hb).1
            cases this
        exact hwi k (g4 k l (by simpa using hk) (by omega) hc) (by omega)
    obtain ⟨τ2, r1, r2, r3⟩ := run_agree _ h2 hag
    have hstep := opG_ok hΓ h hh (fun t ht => by rw [hs]; exact hd o (Array.mem_of_getElem? ho) t ht) r1 (K := wpAny P .any ops Q fuel (listed.setIfInBounds i true)) (Q := Q)
      (fun a2 w2 W2 k1 k2 k3 => by
        refine ih (listed.setIfInBounds i true) τ2 a2 w2 W2 (U.erase i) (by simpa using hsz) k1 k2 (k3.trans hs) ?_ ?_ hdc' ?_
        · intro k hk hn
          rw [hLs] at hn
          have hki : k ≠ i := fun e => hn (.inl e)
          exact (List.mem_erase_of_ne hki).2 (hU k hk fun hL => hn (.inr hL))
        · have := List.length_erase_of_mem (hU i hilt hni)
          omega
        · intro r m hm hw
          by_cases hwr : writes lg r
          · have him : i < m := (hw i lg h1 hwr hilt).1 ((hLs i).2 (.inl rfl))
            rw [r3 r ⟨true, hwr⟩]
            have := hframe r (i + 1) (m - (i + 1)) (by omega) (by
              intro k l hk hk1 hk2 hwk
              have hkm : k < ops.size := by omega
              have hLk := (hw k l hk hwk hkm).2 (by omega)
              rw [hLs] at hLk
              rcases hLk with h5 | h5
              · omega
              · exact hlater k l r true true hk hkm (by omega) hwr hwk (by simp) h5)
            rw [show i + 1 + (m - (i + 1)) = m by omega] at this
            exact this.symm
          · rw [run_frame _ r1 r hwr]
            refine hst r m hm fun k l hk hwk hkl => ?_
            rw [← hw k l hk hwk hkl, hLs]
            constructor
            · exact .inr
            · rintro (rfl | h5)
              · rw [h1] at hk; cases hk; exact absurd hwk hwr
              · exact h5)
    unfold wpOp
    simp only [ho]
    split
    · rename_i hw; rw [if_pos hw] at hstep; exact .inl hstep
    · rename_i hw; rw [if_neg hw] at hstep; exact hstep

end Go.Vs

namespace Go.Vs

variable {C : Ctx} {σ : St} {a : Act} {w w' : World} {W : Wit} {P : Program} {cr : CallR} {Γ : Env}

theorem hasRs_iff {l : List Rs} {r : Rs} : hasRs l r = true ↔ r ∈ l := by
  induction l with
  | nil => simp [hasRs]
  | cons s l ih =>
    simp only [hasRs, Bool.or_eq_true, Rs.eqb_iff, ih, List.mem_cons]
    constructor
    · rintro (h | h)
      · exact .inl h.symm
      · exact .inr h
    · rintro (h | h)
      · exact .inl h.symm
      · exact .inr h

theorem weakFrom_get (all : List Rs) (σ : St) (r : Rs) : ∀ (l : List Rs), (weakFrom all σ l).get r = if r ∈ l then (match σ.get r with | (_, some (s, tvs)) => ((0, 0), some (s, weakTVs all σ tvs)) | _ => ((0, 0), none)) else ((0, 0), none)
  | [] => by simp [weakFrom, St.get, St.find]
  | q :: l => by
    have ih := weakFrom_get all σ r l
    unfold weakFrom
    cases hg : σ.get q with
    | mk v o => cases o with
      | none =>
        simp only
        rw [ih]
        by_cases hrl : r ∈ l
        · simp [hrl]
        · by_cases hrq : r = q
          · subst hrq; simp [hrl, hg]
          · simp [hrl, hrq]
      | some z =>
        obtain ⟨s, tvs⟩ := z
        simp only
        show (St.put (weakFrom all σ l) q _).get r = _
        rw [St.get_put]
        by_cases hrq : q = r
        · subst hrq; simp [hg]
        · rw [if_neg hrq, ih]
          have : r ≠ q := fun e => hrq e.symm
          simp [this]

theorem weak_get {keep : List Rs} {r : Rs} {v : Nat × Nat} {s : Shape} {tvs' : List TV} (h : (weak keep σ).get r = (v, some (s, tvs'))) :
    r ∈ keep ∧ v = (0, 0) ∧ ∃ v0 tvs, σ.get r = (v0, some (s, tvs)) ∧ tvs' = weakTVs keep σ tvs := by
  unfold weak at h
  rw [weakFrom_get] at h
  split at h
  · rename_i hr
    split at h
    · rename_i v0 s0 tvs hg
      cases h
      exact ⟨hr, rfl, v0, tvs, hg, rfl⟩
    · cases h
  · cases h

theorem weak_get_of {keep : List Rs} {r : Rs} {v : Nat × Nat} {s : Shape} {tvs : List TV} (hr : r ∈ keep) (h : σ.get r = (v, some (s, tvs))) : (weak keep σ).get r = ((0, 0), some (s, weakTVs keep σ tvs)) := by
  unfold weak
  rw [weakFrom_get, if_pos hr, h]

theorem weakTVs_length (keep : List Rs) (σ : St) (tvs : List TV) : (weakTVs keep σ tvs).length = tvs.length := by
  induction tvs with
  | nil => rfl
  | cons t l ih => simp [weakTVs, ih]

theorem weakTVs_get (keep : List Rs) (σ : St) (tvs : List TV) (c : Nat) : (weakTVs keep σ tvs)[c]? = tvs[c]?.map (weakTV keep σ) := by
  induction tvs generalizing c with
  | nil => simp [weakTVs]
  | cons t l ih => cases c with
    | zero => rfl
    | succ c => simpa [weakTVs] using ih c

def cutβ (keep : List Rs) (β : Nat → Option Nat) : Nat → Option Nat := fun b => if hasRs keep (.bx b) then β b else none

theorem Rep.weak' {β : Nat → Option Nat} {S S' : Nat → Prop} (keep : List Rs) (hS : ∀ b, S b → S' b) {as : List AV} {vs : List Value} {f : List Nat} (h : Rep w β S as vs f) : keptAVs keep as = true → Rep w (cutβ keep β) S' as vs f := by
  have hmono : ∀ {as : List AV} {vs : List Value} {f : List Nat}, Rep w (fun _ => none) S as vs f → Rep w (fun _ => none) S' as vs f := fun h => h.mono (fun b hb => ⟨hS b hb, rfl⟩) (fun _ _ => rfl) (fun _ _ h => h)
  induction h with
  | nil => intro _; exact .nil
  | v h t ih => intro hk; simp only [keptAVs, Bool.and_eq_true] at hk; exact .v h (ih hS hmono hk.2)
  | any h t ih => intro hk; simp only [keptAVs, Bool.and_eq_true] at hk; exact .any h (ih hS hmono hk.2)
  | bp hb t ih =>
    intro hk
    simp only [keptAVs, keptAV, Bool.and_eq_true] at hk
    exact .bp (by unfold cutβ; rw [if_pos hk.1]; exact hb) (ih hS hmono hk.2)
  | nils hnf t ih => intro hk; simp only [keptAVs, Bool.and_eq_true] at hk; exact .nils hnf (ih hS hmono hk.2)
  | emp hnf hc t ih => intro hk; simp only [keptAVs, Bool.and_eq_true] at hk; exact .emp hnf hc (ih hS hmono hk.2)
  | shd hnf hg hrow hn hsz hpos hcap hmax hin t _ ih => intro hk; simp only [keptAVs, Bool.and_eq_true] at hk; exact .shd hnf (hS _ hg) hrow hn hsz hpos hcap hmax (hmono hin) (ih hS hmono hk.2)
  | owd hnf hg hn hsz hpos hcap hmax hcur hin t _ ih => intro hk; simp only [keptAVs, Bool.and_eq_true] at hk; exact .owd hnf hg hn hsz hpos hcap hmax hcur (hmono hin) (ih hS hmono hk.2)
  | ep hg hrow hsz hi hin t _ ih => intro hk; simp only [keptAVs, Bool.and_eq_true] at hk; exact .ep (hS _ hg) hrow hsz hi (hmono hin) (ih hS hmono hk.2)
  | cp hg hrow hin t _ ih => intro hk; simp only [keptAVs, Bool.and_eq_true] at hk; exact .cp (hS _ hg) hrow (hmono hin) (ih hS hmono hk.2)
  | own hg hin t _ ih => intro hk; simp only [keptAVs, Bool.and_eq_true] at hk; exact .own hg (hmono hin) (ih hS hmono hk.2)
  | clo hin t ih1 ih2 => intro hk; simp only [keptAVs, keptAV, Bool.and_eq_true] at hk; exact .clo (ih1 hS hmono hk.1) (ih2 hS hmono hk.2)

theorem weak_rep {β : Nat → Option Nat} {S S' : Nat → Prop} (keep : List Rs) (σ : St) (hS : ∀ b, S b → S' b) : ∀ {tvs : List TV} {vs : List Value} {f : List Nat}, Rep w β S (tvs.map own) vs f → Rep w (cutβ keep β) S' ((weakTVs keep σ tvs).map own) vs f
  | [], vs, f, h => by cases h; exact .nil
  | t :: tvs, vs, f, h => by
    obtain ⟨v, us, f1, f2, rfl, rfl, h1, h2⟩ := Rep.uncons (show Rep w β S (own t :: tvs.map own) vs f from h)
    refine Rep.cons ?_ (weak_rep keep σ hS h2)
    have hany : own t = .any → Rep w (cutβ keep β) S' [.any] [v] f1 := by
      intro he
      rw [he] at h1
      exact h1.weak' keep hS rfl
    cases t with
    | val b =>
      have h1' : Rep w β S [b] [v] f1 := h1
      cases hk : keptAV keep b with
      | true =>
        have he : weakTV keep σ (.val b) = .val b := by simp [weakTV, hk]
        rw [he]
        exact Rep.weak' keep hS h1' (show (keptAV keep b && true) = true by rw [hk]; rfl)
      | false =>
        have he : weakTV keep σ (.val b) = .val .any := by simp [weakTV, hk]
        rw [he]
        have hf : f1 = [] := h1'.fp_nil (by cases b <;> simp_all [keptAV, AV.owns])
        subst hf
        exact .any h1'.oneCell .nil
    | ref r c ver p =>
      have he : own (weakTV keep σ (.ref r c ver p)) = .any := by
        cases hb : (hasRs keep r && liveVer σ r ver p) <;> simp [weakTV, hb, own]
      rw [he]
      exact hany rfl
    | eref r c ver p sz i k => exact hany rfl

theorem Rep.plainFp {β : Nat → Option Nat} {S : Nat → Prop} {as : List AV} {vs : List Value} {f : List Nat} (h : Rep w β S as vs f) (hp : ∀ x ∈ as, ∃ z, x = AV.v z) : f = [] := by
  induction h with
  | nil => rfl
  | v h t ih => exact ih fun x hx => hp x (by simp [hx])
  | _ => obtain ⟨z, hz⟩ := hp _ (List.mem_cons_self ..); cases hz

/-- The block changes its owner. -/
theorem SR.adopt (h : SR C σ a w W) (hh0 : W.hand = []) {σ' : St} (ha : Adp σ σ') : ∃ W', SR C σ' a w W' ∧ W'.hand = [] := by
  cases ha with
  | refl => exact ⟨W, h, hh0⟩
  | @mk r r' c c' v v' ver s s' tvs tvs' nf sz hh m els hr hc hne hr' hc' hv hpl h1 h2 =>
    -- what the view says
    obtain ⟨z, hz⟩ : ∃ z, (W.cv r')[c']? = some z := by
      obtain ⟨u, f1, fc, f2, hu, _⟩ := (h.rep r' v' s' tvs' hr').at (c := c') (a := .any) (by simp [hc', own])
      exact ⟨u, hu⟩
    obtain ⟨g, n, cap, rfl, hl⟩ := h.refs r' v' s' tvs' hr' c' _ z hc' hz
    obtain ⟨u, hu, hcase⟩ := hl.2 v s tvs hr hv
    have hu1 : u = .slice (some ⟨g, 0, none⟩) n cap := by
      rcases hcase with ⟨_, h3⟩ | ⟨h3, _⟩
      · exact h3.symm
      · exact absurd rfl h3
    subst hu1
    obtain ⟨WA, fc, q1, q2, q3, q4, q5, q6⟩ := h.takeCell hr hc hu rfl
    rw [hh0, List.append_nil] at q3
    generalize hσA : σ.put r (cUp v, some (s, tvs.set c (.val .any))) = σA at q1 q2 q4
    have hrA : σA.get r' = (v', some (s', tvs')) := by
      rw [← hσA, St.get_put_ne _ _ (Ne.symm hne)]; exact hr'
    have hzA : (WA.cv r')[c']? = some (erv g 0 hh m) := by rw [q2.cv]; exact hz
    cases q4 with
    | owd hnf hg hnn hsz hpos hcap hmax hcur hin t =>
      rename_i cur e fi fp
      cases t
      have hfi := hin.plainFp hpl
      subst hfi
      have hlen : (els.take hh).length = hh := by simp; omega
      have hrep' : Rep w WA.β (Sh C σA WA w) [.sl true nf sz (els.take hh)] [erv g 0 hh m] (g :: [] ++ []) := by
        refine Rep.owd (cur := cur) (e := e) hnf hg hlen (fun el hel => hsz el (List.mem_of_mem_take hel)) hpos h1 (by omega) ?_ ?_ .nil
        · exact Nat.le_trans (Nat.mul_le_mul_right _ (by omega)) hcur
        · rw [flatten_take' _ hsz]
          have := hin.sub 0 (hh * sz)
          rw [List.drop_zero, List.drop_zero, List.take_take, Nat.min_eq_left (Nat.mul_le_mul_right _ (by omega))] at this
          exact this
      obtain ⟨WB, x1, x2, x3⟩ := q1.giveCell0 (c := c') (hand' := []) hrA (by simp [hc', own]) hzA hrep' (by rw [q3]; simp) (by simp) (by simp) (by simp) (by simp)
      exact ⟨WB, x1, x3⟩

/-- At a loop's head much is forgotten. -/
theorem SR.weak (h : SR C σ a w W) (keep : List Rs) : ∃ W', SR C (weak keep σ) a w W' ∧ W'.hand = [] := by
  have hlive : ∀ r, live (Vs.weak keep σ) r → live σ r := by
    rintro r ⟨v, s, tvs, hr⟩
    obtain ⟨-, -, v0, tvs0, h1, -⟩ := weak_get hr
    exact ⟨v0, s, tvs0, h1⟩
  have hβ : ∀ x g, cutβ keep W.β x = some g → hasRs keep (.bx x) = true ∧ W.β x = some g := by
    intro x g hx
    unfold cutβ at hx
    split at hx
    · rename_i hk; exact ⟨hk, hx⟩
    · cases hx
  have hSh : ∀ b, Sh C σ W w b → Sh C (Vs.weak keep σ) { W with β := cutβ keep W.β, hand := [] } w b := by
    rintro b ⟨h1, h2, h3⟩
    refine ⟨h1, h2, ?_⟩
    rintro (⟨r, hr, hb⟩ | ⟨x, hx⟩ | hb)
    · exact h3 (.inl ⟨r, hlive r hr, hb⟩)
    · exact h3 (.inr (.inl ⟨x, (hβ x b hx).2⟩))
    · simp at hb
  refine ⟨{ W with β := cutβ keep W.β, hand := [] }, ⟨?_, ?_, ?_, ?_, ?_, ?_, ?_, ?_, ?_, ?_, ?_, ?_, by simp, by simp, by simp, h.keep, h.dfr, fun g cs h1 => ⟨hSh g (h.gl g cs h1).1, (h.gl g cs h1).2⟩⟩, rfl⟩
  · intro i v s tvs hr
    obtain ⟨-, -, v0, tvs0, h1, rfl⟩ := weak_get hr
    rw [weakTVs_length]
    exact h.slot i v0 s tvs0 h1
  · intro b v s tvs hr
    obtain ⟨hk, -, v0, tvs0, h1, rfl⟩ := weak_get hr
    obtain ⟨g, T, h2, h3⟩ := h.box b v0 s tvs0 h1
    exact ⟨g, T, by show cutβ keep W.β b = _; unfold cutβ; rw [if_pos (hasRs_iff.2 hk)]; exact h2, h3⟩
  · intro b g hb
    obtain ⟨h1, h2⟩ := hβ b g hb
    obtain ⟨v, s, tvs, h3⟩ := h.boxl b g h2
    exact ⟨_, _, _, weak_get_of (hasRs_iff.1 h1) h3⟩
  · intro i hi
    exact h.ext i (hlive _ hi)
  · intro r v s tvs hr
    obtain ⟨-, -, v0, tvs0, h1, rfl⟩ := weak_get hr
    exact weak_rep keep σ hSh (h.rep r v0 s tvs0 h1)
  · intro r v s tvs hr c t x ht hx
    obtain ⟨-, -, v0, tvs0, h1, rfl⟩ := weak_get hr
    rw [weakTVs_get] at ht
    cases ht0 : tvs0[c]? with
    | none => rw [ht0] at ht; cases ht
    | some t0 =>
      rw [ht0] at ht
      simp only [Option.map_some, Option.some.injEq] at ht
      subst ht
      have hold := h.refs r v0 s tvs0 h1 c t0 x ht0 hx
      cases t0 with
      | val b => cases hk : keptAV keep b <;> simp [weakTV, hk, RefOk]
      | eref r2 c2 ver p sz i k => trivial
      | ref r2 c2 ver p =>
        cases hk : (hasRs keep r2 && liveVer σ r2 ver p) with
        | false => simp [weakTV, hk, RefOk]
        | true =>
          simp only [weakTV, hk]
          simp only [Bool.and_eq_true] at hk
          obtain ⟨hk1, hk2⟩ := hk
          unfold liveVer at hk2
          split at hk2
          · rename_i v2 z hg2
            obtain ⟨s2, t2⟩ := z
            have hg' := weak_get_of (hasRs_iff.1 hk1) hg2
            refine ⟨hold.1, ?_, fun v' s' tvs' hr' hv' => ?_⟩
            · unfold VerB
              rw [hg']
              exact .inr ⟨rfl, Nat.le_refl _⟩
            · rw [hg'] at hr'
              cases hr'
              obtain ⟨u, hu, hcase⟩ := hold.2.2 v2 s2 t2 hg2 hk2
              refine ⟨u, hu, hcase.imp id ?_⟩
              rintro ⟨hp, b, b', hb, hn⟩
              refine ⟨hp, b, b', ?_, hn⟩
              rw [weakTVs_get, hb]
              cases p with
              | nil => exact absurd rfl hp
              | cons q p =>
                obtain ⟨nf, sz, els, g, n, cap, cur, e, el, a1, y, rfl, rest⟩ := hn
                rfl
          · cases hk2
  · intro r hr; exact h.nd r (hlive r hr)
  · intro r r' hr hr'; exact h.dis r r' (hlive r hr) (hlive r' hr')
  · intro x y g hx hy; exact h.binj x y g (hβ x g hx).2 (hβ y g hy).2
  · intro x g r hx hr; exact h.bdis x g r (hβ x g hx).2 (hlive r hr)
  · intro x g hx; exact h.brng x g (hβ x g hx).2
  · intro r hr; exact h.rng r (hlive r hr)

/-! ### Less is said -/

theorem WkL.length {as bs : List AV} (h : WkL as bs) : as.length = bs.length := by
  induction h <;> simp_all

theorem WkL.cons1 {a b : AV} {as bs : List AV} (h : WkL [a] [b]) (t : WkL as bs) : WkL (a :: as) (b :: bs) := by
  cases h with
  | keep _ => exact .keep t
  | nils _ => exact .nils t
  | sl hn hl hs hin _ => exact .sl hn hl hs hin t
  | top _ => exact .top t

theorem WkL.append {as bs cs ds : List AV} (h : WkL as bs) (t : WkL cs ds) : WkL (as ++ cs) (bs ++ ds) := by
  induction h with
  | nil => exact t
  | keep _ ih => exact .keep ih
  | nils _ ih => exact .nils ih
  | sl hn hl hs hin _ _ ih => exact .sl hn hl hs hin ih
  | top _ ih => exact .top ih

theorem Rep.wk {_β : Nat → Option Nat} {S : Nat → Prop} {as bs : List AV} (hk : WkL as bs) : ∀ {β : Nat → Option Nat} {vs : List Value} {fp : List Nat}, Rep w β S as vs fp → Rep w β S bs vs fp := by
  induction hk with
  | nil => intro β vs fp h; exact h
  | keep _ ih =>
    intro β vs fp h
    obtain ⟨v, us, f1, f2, rfl, rfl, h1, h2⟩ := Rep.uncons h
    exact h1.cons (ih h2)
  | nils _ ih =>
    intro β vs fp h
    cases h with
    | nils hnf t => exact .nils (by simp) (ih t)
    | emp hnf hc t => exact absurd rfl hnf
    | shd hnf => exact absurd rfl hnf
    | owd hnf => exact absurd rfl hnf
  | top _ ih =>
    intro β vs fp h
    cases h with
    | nils hnf t => exact .nils (by simp) (ih t)
    | emp hnf hc t => exact .emp (by simp) hc (ih t)
    | shd hnf hg hrow hn hsz hpos hcap hmax hin t => exact .shd (by simp) hg hrow hn hsz hpos hcap hmax hin (ih t)
    | owd hnf hg hn hsz hpos hcap hmax hcur hin t => exact .owd (by simp) hg hn hsz hpos hcap hmax hcur hin (ih t)
  | @sl o n n' s els els' as bs hn hl hs hin _ ih1 ih2 =>
    intro β vs fp h
    have hflag : ∀ x : NF, x ≠ .unk → n ≠ x → n' ≠ x := by
      intro x hx hnx
      rcases hn with rfl | rfl
      · exact hnx
      · exact fun e => hx e.symm
    cases h with
    | nils hnf t =>
      obtain rfl : els' = [] := List.eq_nil_of_length_eq_zero (by simpa using hl)
      exact .nils (hflag _ (by simp) hnf) (ih2 t)
    | emp hnf hc t =>
      obtain rfl : els' = [] := List.eq_nil_of_length_eq_zero (by simpa using hl)
      exact .emp (hflag _ (by simp) hnf) hc (ih2 t)
    | shd hnf hg hrow hn hsz hpos hcap hmax hin t => exact .shd (hflag _ (by simp) hnf) hg hrow (hl.trans hn) hs hpos hcap hmax (ih1 hin) (ih2 t)
    | owd hnf hg hn hsz hpos hcap hmax hcur hin t => exact .owd (hflag _ (by simp) hnf) hg (hl.trans hn) hs hpos hcap hmax hcur (ih1 hin) (ih2 t)

theorem Reps.wk {S : Nat → Prop} {l m : List Arg} (hk : WkA l m) : ∀ {vals : List Value} {fp : List Nat}, Reps w S l vals fp → Reps w S m vals fp := by
  induction hk with
  | nil => intro vals fp h; exact h
  | cons h _ ih =>
    intro vals fp hr
    cases hr with
    | cons h1 t => exact .cons (Rep.wk (_β := fun _ => none) h h1) (ih t)

theorem FPost.wk {w : World} {S : Nat → Prop} {vals : List Value} {fp : List Nat} {outs outs' : List Arg} {res res' : Arg} {e : Ending} {w' : World} (h : FPost w S vals fp outs res e w') (ho : WkA outs outs') (hr : WkR res res') : FPost w S vals fp outs' res' e w' := by
  obtain ⟨rvs, fpr, fp', h1, h2, h3, h4, h5, h6, h7⟩ := h
  obtain ⟨s, as⟩ := res
  obtain ⟨s', bs⟩ := res'
  obtain ⟨rfl, hw | hw⟩ := hr
  · refine ⟨rvs, fpr, fp', h1, ?_, h3, h4, h5, Rep.wk (_β := fun _ => none) hw h6, h7.wk ho⟩
    rw [← hw.length]; exact h2
  · rw [List.nodup_append] at h4
    refine ⟨rvs, [], fp', h1, ?_, h3, by simpa using h4.2.1, fun b hb => h5 b (by simp at hb; simp [hb]), ?_, (h7.wk ho).mono fun b hb => ⟨hb.1, hb.2.1, fun hb' => hb.2.2 (by simp at hb'; simp [hb'])⟩⟩
    · rw [← hw.length, shcL_length]; exact h2
    · refine Rep.wk (_β := fun _ => none) hw (h6.shc (fun b hb => ⟨hb.1, hb.2.1, fun hb' => hb.2.2 (by simp at hb'; simp [hb'])⟩) fun b hb => ?_)
      obtain ⟨h8, h9⟩ := h5 b (by simp [hb])
      refine ⟨.inr h8, h9, fun hb' => ?_⟩
      simp only [List.nil_append] at hb'
      exact h4.2.2 b hb b hb' rfl

/-- A contract says less of what comes back, or is asked with more. -/
theorem FOk.wk {f : FuncId} {args args' outs outs' : List Arg} {res res' : Arg} (h : FOk P f args outs res) (ha : WkA args' args) (ho : WkA outs outs') (hr : WkR res res') : FOk P f args' outs' res' := by
  refine ⟨h.1, fun w S vals fp h1 h2 h3 h4 h5 => ?_⟩
  exact (h.2 w S vals fp h1 h2 h3 (h4.wk ha) h5).mono fun e w' hp => hp.wk ho hr

/-- One shared slice: whether it is nil decides. -/
theorem FOk.nilSplit {f : FuncId} {s : Nat} {els : List (List AV)} {res : Arg} (h1 : els = [] → FOk P f [(.one, [.sl false .isnil s []])] [(.one, [.sl false .isnil s []])] res)
    (h2 : FOk P f [(.one, [.sl false .non s els])] [(.one, [.sl false .non s els])] res) : FOk P f [(.one, [.sl false .unk s els])] [(.one, [.sl false .unk s els])] res := by
  refine ⟨h2.1, fun w S vals fp k1 k2 k3 k4 k5 => ?_⟩
  have hkey : ∀ n : NF, WkA [(Shape.one, [AV.sl false n s els])] [(.one, [.sl false .unk s els])] := fun n => .cons (.top .nil) .nil
  cases k4 with
  | cons ha t =>
    cases t
    cases ha with
    | nils hnf t =>
      cases t
      refine ((h1 rfl).2 w S _ _ k1 k2 k3 (.cons (.nils (by simp) .nil) .nil) k5).mono fun e w' hp => hp.wk (hkey _) (WkR.refl _)
    | emp hnf hc t =>
      cases t
      refine (h2.2 w S _ _ k1 k2 k3 (.cons (.emp (by simp) hc .nil) .nil) k5).mono fun e w' hp => hp.wk (hkey _) (WkR.refl _)
    | shd hnf hg hrow hn hsz hpos hcap hmax hin t =>
      cases t
      refine (h2.2 w S _ _ k1 k2 k3 (.cons (.shd (by simp) hg hrow hn hsz hpos hcap hmax hin .nil) .nil) k5).mono fun e w' hp => hp.wk (hkey _) (WkR.refl _)

theorem WkT.own {l m : List TV} (h : WkT l m) : WkL (l.map Vs.own) (m.map Vs.own) := by
  induction h with
  | nil => exact .nil
  | keep _ ih => exact .keep ih
  | nils _ ih => exact .nils ih
  | top _ ih => exact .top ih

theorem WkT.length {l m : List TV} (h : WkT l m) : l.length = m.length := by
  induction h <;> simp_all

theorem WkT.get {l m : List TV} (h : WkT l m) : ∀ (c : Nat) (t : TV), m[c]? = some t → l[c]? = some t ∨ ∃ o n s s' els, l[c]? = some (.val (.sl o n s els)) ∧ t = .val (.sl o .unk s' els) ∧ (s' = s ∨ els = []) := by
  induction h with
  | nil => intro c t h; simp at h
  | keep _ ih =>
    intro c t ht
    cases c with
    | zero => exact .inl ht
    | succ c => exact ih c t (by simpa using ht)
  | nils _ ih =>
    intro c t ht
    cases c with
    | zero => simp at ht; subst ht; exact .inr ⟨_, _, _, _, _, rfl, rfl, .inr rfl⟩
    | succ c => exact ih c t (by simpa using ht)
  | top _ ih =>
    intro c t ht
    cases c with
    | zero => simp at ht; subst ht; exact .inr ⟨_, _, _, _, _, rfl, rfl, .inl rfl⟩
    | succ c => exact ih c t (by simpa using ht)

theorem WkS.get {σ τ : St} (h : WkS σ τ) (r : Rs) : (σ.get r = ((0, 0), none) ∧ τ.get r = ((0, 0), none)) ∨ ∃ v s tvs tvs', σ.get r = (v, some (s, tvs)) ∧ τ.get r = (v, some (s, tvs')) ∧ WkT tvs tvs' := by
  induction h with
  | nil => exact .inl ⟨rfl, rfl⟩
  | @cons q v s tvs tvs' σ τ h _ ih =>
    show ((St.put σ q _).get r = _ ∧ (St.put τ q _).get r = _) ∨ ∃ v s tvs tvs', (St.put σ q _).get r = _ ∧ (St.put τ q _).get r = _ ∧ _
    rw [St.get_put, St.get_put]
    by_cases hq : q = r
    · simp only [hq, if_true]
      exact .inr ⟨_, _, _, _, rfl, rfl, h⟩
    · simp only [hq, if_false]
      exact ih

theorem NavAt.wk {o : Bool} {n : NF} {s s' : Nat} {els : List (List AV)} (hs : s' = s ∨ els = []) {p : Path} (hp : p ≠ []) {u : Value} {a' : AV} {y : Value} (h : NavAt w (.sl o n s els) u p a' y) : NavAt w (.sl o .unk s' els) u p a' y := by
  cases p with
  | nil => exact absurd rfl hp
  | cons q p =>
    obtain ⟨nf, sz, els', g, m, cap, cur, e, el, a1, y1, h1, h2, h3, h4, h5, h6, h7⟩ := h
    cases h1
    rcases hs with rfl | rfl
    · exact ⟨_, _, _, g, m, cap, cur, e, el, a1, y1, rfl, h2, h3, h4, h5, h6, h7⟩
    · simp at h4

/-- The state, less being said of it. -/
theorem SR.wk (h : SR C σ a w W) {τ : St} (hk : WkS σ τ) : SR C τ a w W := by
  have hlive : ∀ r, live τ r ↔ live σ r := by
    intro r
    rcases hk.get r with ⟨h1, h2⟩ | ⟨v, s, tvs, tvs', h1, h2, h3⟩
    · constructor
      · rintro ⟨v, s, tvs, h⟩; rw [h2] at h; cases h
      · rintro ⟨v, s, tvs, h⟩; rw [h1] at h; cases h
    · exact ⟨fun _ => ⟨_, _, _, h1⟩, fun _ => ⟨_, _, _, h2⟩⟩
  have hof : ∀ {r v s tvs'}, τ.get r = (v, some (s, tvs')) → ∃ tvs, σ.get r = (v, some (s, tvs)) ∧ WkT tvs tvs' := by
    intro r v s tvs' hr
    rcases hk.get r with ⟨h1, h2⟩ | ⟨v, s, tvs, tvs', h1, h2, h3⟩
    · rw [h2] at hr; cases hr
    · rw [h2] at hr; cases hr; exact ⟨_, h1, h3⟩
  have hSh : ∀ b, Sh C τ W w b ↔ Sh C σ W w b := by
    intro b
    unfold Sh Wr
    simp only [hlive]
  have hShe : Sh C τ W w = Sh C σ W w := funext fun b => propext (hSh b)
  refine ⟨?_, ?_, ?_, ?_, ?_, ?_, ?_, ?_, h.binj, ?_, h.brng, ?_, h.hnd, ?_, h.hrng, h.keep, h.dfr, by rw [hShe]; exact h.gl⟩
  · intro i v s tvs' hr
    obtain ⟨tvs, h1, h2⟩ := hof hr
    rw [← h2.length]
    exact h.slot i v s tvs h1
  · intro b v s tvs' hr
    obtain ⟨tvs, h1, h2⟩ := hof hr
    exact h.box b v s tvs h1
  · intro b g hb; exact (hlive _).2 (h.boxl b g hb)
  · intro i hi; exact h.ext i ((hlive _).1 hi)
  · intro r v s tvs' hr
    obtain ⟨tvs, h1, h2⟩ := hof hr
    rw [hShe]
    exact Rep.wk (_β := W.β) h2.own (h.rep r v s tvs h1)
  · intro r v s tvs' hr c t x ht hx
    obtain ⟨tvs, h1, h2⟩ := hof hr
    have hold : RefOk w σ W t x := by
      rcases h2.get c t ht with h3 | ⟨o, n, s, s', els, h3, rfl, _⟩
      · exact h.refs r v s tvs h1 c t x h3 hx
      · trivial
    have hloc : ∀ r2 c2 ver p y, Loc w σ W r2 c2 ver p y → Loc w τ W r2 c2 ver p y := by
      rintro r2 c2 ver p y ⟨k1, k2⟩
      refine ⟨?_, fun v' s' tvs2 hr2 hv => ?_⟩
      · unfold VerB at k1 ⊢
        rcases hk.get r2 with ⟨h1, h2⟩ | ⟨v, s, tvs, tvs', h1, h2, h3⟩
        · rw [h1] at k1; rw [h2]; exact k1
        · rw [h1] at k1; rw [h2]; exact k1
      · obtain ⟨tvs3, h4, h5⟩ := hof hr2
        obtain ⟨u, hu, hcase⟩ := k2 v' s' tvs3 h4 hv
        refine ⟨u, hu, hcase.imp id ?_⟩
        rintro ⟨hp, b, b', hb, hnv⟩
        refine ⟨hp, ?_⟩
        have hc2 : c2 < tvs2.length := by rw [← h5.length]; exact (List.getElem?_eq_some_iff.1 hb).1
        obtain ⟨t2, ht2⟩ : ∃ t2, tvs2[c2]? = some t2 := ⟨tvs2[c2], List.getElem?_eq_some_iff.2 ⟨hc2, rfl⟩⟩
        rcases h5.get c2 t2 ht2 with h6 | ⟨o, n, s, s', els, h6, rfl, h7⟩
        · rw [hb] at h6; cases h6
          exact ⟨b, b', ht2, hnv⟩
        · rw [hb] at h6; cases h6
          exact ⟨_, b', ht2, NavAt.wk h7 hp hnv⟩
    cases t with
    | val b => trivial
    | ref r2 c2 ver p => exact ⟨hold.1, hloc _ _ _ _ _ hold.2⟩
    | eref r2 c2 ver p sz i k =>
      obtain ⟨g, n, cap, hx, hl⟩ := hold
      exact ⟨g, n, cap, hx, hloc _ _ _ _ _ hl⟩
  · intro r hr; exact h.nd r ((hlive r).1 hr)
  · intro r r' hr hr'; exact h.dis r r' ((hlive r).1 hr) ((hlive r').1 hr')
  · intro x g r hx hr; exact h.bdis x g r hx ((hlive r).1 hr)
  · intro r hr; exact h.rng r ((hlive r).1 hr)
  · intro b hb; exact ⟨fun r hr => (h.hdis b hb).1 r ((hlive r).1 hr), (h.hdis b hb).2⟩

theorem WkS.weakFrom (all : List Rs) (σ : St) : ∀ l, WkS (weakFrom all σ l) (weakFrom all σ l)
  | [] => .nil
  | r :: l => by
    unfold Vs.weakFrom
    split
    · exact .cons (WkT.refl _) (WkS.weakFrom all σ l)
    · exact WkS.weakFrom all σ l

/-- Nothing less is said. -/
theorem WkS.weak (keep : List Rs) (σ : St) : WkS (weak keep σ) (weak keep σ) := WkS.weakFrom keep σ keep

end Go.Vs

namespace Go.Vs

variable {C : Ctx} {σ : St} {a : Act} {w w' : World} {W : Wit} {P : Program} {cr : CallR} {Γ : Env}
variable [HT : TabFact C P]

theorem dstsOk_spec {n : Nat} : ∀ {l : List Oper}, dstsOk n l = true → ∀ o ∈ l, ∀ t, o.dst = some t → t < n
  | [], _, o, ho, _, _ => by simp at ho
  | o0 :: l, h, o, ho, t, ht => by
    simp only [dstsOk, Bool.and_eq_true] at h
    rcases List.mem_cons.1 ho with rfl | ho
    · have h1 := h.1
      rw [ht] at h1
      simpa using h1
    · exact dstsOk_spec h.2 o ho t ht

theorem wp_mono' {c : Code} {Q Q' : Exit → Act → World → Prop} (h : c.wp P Q a w) (hq : ∀ e a w, Q e a w → Q' e a w) : c.wp P Q' a w := wp_mono h hq

/-- THE CODE DOES WHAT 'awp' SAYS. -/
theorem awp_sound (hΓ : EnvOk P Γ) (hm : P.follows .mixedOrders = true) {N : Nat} : ∀ (c : Code) (Qs : Exit → St → Prop) (Q : Exit → Act → World → Prop) (σ : St) (a : Act) (w : World) (W : Wit),
    awp P Γ c Qs σ → SR C σ a w W → W.hand = [] → a.tmps.size = N → codeOk N c = true →
    (∀ e τ a' w' W', Qs e τ → SR C τ a' w' W' → W'.hand = [] → a'.tmps.size = N → Q e a' w') → c.wp P Q a w := by
  intro c
  induction c with
  | skip => intro Qs Q σ a w W h hs hh hN hc hQ; exact wp_skip (hQ _ _ _ _ _ h hs hh hN)
  | ret => intro Qs Q σ a w W h hs hh hN hc hQ; exact wp_ret (hQ _ _ _ _ _ h hs hh hN)
  | exit id => intro Qs Q σ a w W h hs hh hN hc hQ; exact wp_exit (hQ _ _ _ _ _ h hs hh hN)
  | region id ops draw =>
    intro Qs Q σ a w W h hs hh hN hc hQ
    obtain ⟨τ, ls, h1, h2⟩ := regSat_run h
    simp only [List.append_nil, List.reverse_reverse] at h2
    have hd := dstsOk_spec (show dstsOk N ops.toList = true from hc)
    have hd' : ∀ o ∈ ops, ∀ t, o.dst = some t → t < N := fun o ho => hd o (by simpa using ho)
    cases draw with
    | false =>
      refine wp_region ?_
      have := wpOps_run hΓ (a := a) (Q := Q) (fun o ho t ht => by rw [hN]; exact hd' o ho t ht) h1 0 a w W (by simp) hs hh rfl (fun a' w' W' k1 k2 k3 => hQ _ _ _ _ _ h2 k1 k2 (k3.trans hN))
      rw [List.range_eq_range']
      simpa using this
    | true =>
      refine wp_region_any hm ?_
      obtain ⟨s, s1, s2, s3, s4⟩ := h1.funs
      obtain ⟨k1, -, -⟩ := hs.world (w' := { w with drawn := w.drawn + 1 }) (hand' := []) ⟨rfl, rfl, rfl, Nat.le_refl _, fun _ _ _ => rfl⟩ (by simp) (by simp)
      refine wpAny_run hΓ (N := N) hd' (s := s) (lgs := ls) (fun i o hi => s4 i o (by simpa using hi)) h2.1 (fun a' w' W' q1 q2 q3 => ?_) ops.size (Array.replicate ops.size false) σ a _ _ (List.range ops.size) (by simp) k1 rfl hN (fun i hi _ => by simpa using hi) (by simp) ?_ ?_
      · rw [show ops.size = ops.toList.length by simp, s2] at q1
        exact hQ _ _ _ _ _ h2.2 q1 q2 q3
      · intro i o _ hL
        exfalso
        unfold Lst at hL
        simp [Array.getElem?_replicate] at hL
        split at hL <;> simp at hL
      · intro r m hm' hw
        -- nothing is listed yet: no writer stands ahead of 'm'
        have hno : ∀ k, k ≤ m → (s k).get r = σ.get r := by
          intro k
          induction k with
          | zero => intro _; rw [s1]
          | succ k ih =>
            intro hk
            have hlt : k < ops.size := by omega
            obtain ⟨cr, lg, g1, g2⟩ := s4 k ops[k] (by simp [hlt])
            have hnw : ¬ writes lg r := by
              intro hwr
              have := (hw k lg g1 hwr hlt).2 (by omega)
              unfold Lst at this
              simp [Array.getElem?_replicate] at this
              split at this <;> simp at this
            rw [run_frame _ g2 r hnw]
            exact ih (by omega)
        exact (hno m (Nat.le_refl _)).symm
  | seq x y ihx ihy =>
    intro Qs Q σ a w W h hs hh hN hc hQ
    simp only [codeOk, Bool.and_eq_true] at hc
    refine wp_seq (ihx _ _ σ a w W h hs hh hN hc.1 fun e τ a' w' W' hq k1 k2 k3 => ?_)
    cases e with
    | normal => exact ihy _ _ τ a' w' W' hq k1 k2 k3 hc.2 hQ
    | _ => exact hQ _ _ _ _ _ hq k1 k2 k3
  | cond c x y ihx ihy =>
    intro Qs Q σ a w W h hs hh hN hc hQ
    simp only [codeOk, Bool.and_eq_true] at hc
    cases c with
    | tmp t =>
      simp only [awp] at h
      split at h
      · rename_i v b hg
        have hrep := hs.rep _ _ _ _ hg
        have hslot := (hs.slot t _ _ _ hg).1
        generalize W.cv (.sl t) = cv at hrep hslot
        generalize W.fp (.sl t) = ff at hrep
        have hcv1 : cv = [.bool b] := by
          cases hrep with
          | v hs tl => cases tl; rfl
        subst hcv1
        have hev : a.eval (.tmp t) = .bool b := by
          simp [Act.eval, hslot, shVal]
        cases b with
        | true => exact wp_cond_true hev (ihx _ _ σ a w W (h.1 rfl) hs hh hN hc.1 hQ)
        | false => exact wp_cond_false hev (ihy _ _ σ a w W (h.2 rfl) hs hh hN hc.2 hQ)
      · exact h.elim
    | _ => exact h.elim
  | block id x ih =>
    intro Qs Q σ a w W h hs hh hN hc hQ
    refine wp_block (ih _ _ σ a w W h hs hh hN hc fun e τ a' w' W' hq k1 k2 k3 => ?_)
    cases e with
    | exit i =>
      simp only at hq
      cases hi : Nat.beq i id with
      | true =>
        rw [hi] at hq
        have : i = id := by simpa using hi
        simp only [Exit.inBlock, this, if_true]
        exact hQ _ _ _ _ _ hq k1 k2 k3
      | false =>
        rw [hi] at hq
        have : i ≠ id := by
          intro e; subst e
          simp at hi
        simp only [Exit.inBlock, this, if_false]
        exact hQ _ _ _ _ _ hq k1 k2 k3
    | _ => exact hQ _ _ _ _ _ hq k1 k2 k3
  | loop x ih =>
    intro Qs Q σ a w W h hs hh hN hc hQ
    obtain ⟨keep, I, n, τ0, σ1, hadp, hwk, h0, h1⟩ := h
    obtain ⟨W1, hs1, hh1⟩ := hs.adopt hh hadp
    obtain ⟨W0, g1, g2⟩ := hs1.weak keep
    refine wp_loop_ghost (fun m a w => ∃ τ W, I m τ ∧ SR C τ a w W ∧ W.hand = [] ∧ a.tmps.size = N) n ⟨_, _, h0, g1.wk hwk, g2, hN⟩ ?_
    rintro m a1 w1 ⟨τ, W1, q1, q2, q3, q4⟩
    refine ih _ _ τ a1 w1 W1 (h1 m τ q1) q2 q3 q4 hc fun e υ a' w' W' hq k1 k2 k3 => ?_
    cases e with
    | normal =>
      obtain ⟨m', hm1, υ, hwk', hm2⟩ := hq
      obtain ⟨W2, r1, r2⟩ := k1.weak keep
      exact ⟨m', hm1, _, _, hm2, r1.wk hwk', r2, k3⟩
    | _ => exact hQ _ _ _ _ _ hq k1 k2 k3
  | _ => intro Qs Q σ a w W h; exact h.elim

end Go.Vs

namespace Go.Vs

variable {C : Ctx} {σ : St} {a : Act} {w w' : World} {W : Wit} {P : Program} {cr : CallR} {Γ : Env}

theorem takeRes_ok (h : SR C σ a w W) {tvs : List TV} {vs : List Value} (hv : View C σ W w tvs vs) {as : List AV} {σ' : St} {l : Log} (hr : (takeRes tvs).run P cr σ = some (as, σ', l)) :
    ∃ W' f, SR C σ' a w W' ∧ Mv C w σ W σ' W' ∧ (∃ f', W'.hand = f' ++ W.hand ∧ ∀ b, b ∈ f ↔ b ∈ f') ∧ f.Nodup ∧ Rep w (fun _ => none) (Sh C σ' W' w) as vs f ∧ as.length = tvs.length := by
  obtain ⟨ts, σ1, l1, l2, h1, h2, rfl⟩ := run_bind_some hr
  obtain ⟨W1, f, k1, k2, k3, k4, k5, k6⟩ := takes_ok h hv h1
  obtain ⟨bs, σ2, l3, l4, h3, h4, rfl⟩ := run_bind_some h2
  obtain ⟨rfl, e1, e2⟩ := vals_ok k5 h3
  obtain ⟨hok, h5⟩ := chk_run h4
  obtain ⟨rfl, rfl, _⟩ := ret_run h5
  exact ⟨W1, f, k1, k2, k3, k4, e2.noβs hok, by rw [← k6, e1, valTVs_length]⟩

def resVal (a : Act) : ResultVar → Sem Value
  | .tmp t => pure (a.tmps.getD t undef)
  | .cell p t => do loadVar t (← asAddr (a.tmps.getD p undef))

theorem shapeFit_len {s : Shape} {n m : Nat} (h : n = m) (hs : shapeFit s n) : shapeFit s m := h ▸ hs

theorem resPr1_ok (hΓ : EnvOk P Γ) (h : SR C σ a w W) {rv : ResultVar} {s : Shape} {as : List AV} {σ' : St} {l : Log} (hr : (resPr1 Γ rv).run P cr σ = some ((s, as), σ', l)) :
    ∃ W' f vs, SR C σ' a w W' ∧ Mv C w σ W σ' W' ∧ (∃ f', W'.hand = f' ++ W.hand ∧ ∀ b, b ∈ f ↔ b ∈ f') ∧ f.Nodup ∧ Rep w (fun _ => none) (Sh C σ' W' w) as vs f ∧ shapeFit s as.length ∧ (resVal a rv).run P w = .ok (shVal s vs) w := by
  cases rv with
  | tmp t =>
    obtain ⟨⟨s0, tvs⟩, σ1, l1, l2, h1, h2, rfl⟩ := run_bind_some (show (rdOp (.tmp t) >>= fun x => takeRes x.2 >>= fun as => Pr.ret (x.1, as)).run P cr σ = _ from hr)
    obtain ⟨rfl, vs, hx, hv, hs⟩ := rdOp_ok h h1
    obtain ⟨as', σ2, l3, l4, h3, h4, rfl⟩ := run_bind_some h2
    obtain ⟨W', f, k1, k2, k3, k4, k5, k6⟩ := takeRes_ok h hv h3
    obtain ⟨he, rfl, _⟩ := ret_run h4
    cases he
    refine ⟨W', f, vs, k1, k2, k3, k4, k5, by rw [k6]; exact hs, ?_⟩
    have : a.tmps.getD t undef = shVal s0 vs := hx
    simp only [resVal, this]
    simp
  | cell p T =>
    obtain ⟨i, hi, h1⟩ := withTy_run hr
    obtain ⟨hsz, h2⟩ := chk_run h1
    obtain ⟨t, σ1, l1, l2, h3, h4, rfl⟩ := run_bind_some h2
    obtain ⟨rfl, ht⟩ := rdOne_ok h h3
    obtain ⟨⟨s0, tvs⟩, σ2, l3, l4, h5, h6, rfl⟩ := run_bind_some h4
    obtain ⟨rfl, rfl, g, off, vs, hx, hlen, hc, hv⟩ := loadTV_ok h ht h5
    obtain ⟨as', σ3, l5, l6, h7, h8, rfl⟩ := run_bind_some h6
    obtain ⟨W', f, k1, k2, k3, k4, k5, k6⟩ := takeRes_ok h hv h7
    obtain ⟨he, rfl, _⟩ := ret_run h8
    cases he
    refine ⟨W', f, vs, k1, k2, k3, k4, k5, ?_, ?_⟩
    · rw [k6, hv.length, hlen]
      rcases shape_of_kind i with ⟨h9, _⟩ | ⟨h9, h10⟩
      · rw [h9]; trivial
      · rw [h9]
        show i.size = 1
        unfold szB at hsz
        cases hk : i.kind <;> simp_all [isAggK]
    · have hx' : a.tmps.getD p undef = .pointer (some ⟨g, off, none⟩) := hx
      have := run_loadAt_cells (P := P) (hΓ T i hi) hsz hlen hc
      simp only [Instr.loadAt, Instr.sureAddr] at this
      simp only [resVal, hx', asAddr]
      simpa using this

end Go.Vs

namespace Go.Vs

variable {C : Ctx} {σ : St} {a : Act} {w w' : World} {W : Wit} {P : Program} {cr : CallR} {Γ : Env}

/-- The parts of a tuple, from their cells. -/
theorem isAggS_spec {s : Shape} {g : Bool} (h : isAggS s = some g) : s = aggShape g := by
  cases s <;> simp [isAggS] at h <;> subst h <;> rfl

theorem resPrs_ok (hΓ : EnvOk P Γ) {rs : List ResultVar} : ∀ {σ : St} {W : Wit} {ss : List (Bool × Nat)} {as : List AV} {σ' : St} {l : Log}, SR C σ a w W → (resPrs Γ rs).run P cr σ = some ((ss, as), σ', l) →
    ∃ W' f vs xs, SR C σ' a w W' ∧ Mv C w σ W σ' W' ∧ (∃ f', W'.hand = f' ++ W.hand ∧ ∀ b, b ∈ f ↔ b ∈ f') ∧ f.Nodup ∧ Rep w (fun _ => none) (Sh C σ' W' w) as vs f ∧ shapeFit.tupSum ss = as.length ∧ (∀ g k, (g, k) ∈ ss → g = false → k = 1) ∧
      (rs.mapM (resVal a)).run P w = .ok xs w ∧ xs = shVal.go ss vs ∧ xs.length = rs.length := by
  induction rs with
  | nil =>
    intro σ W ss as σ' l h hr
    obtain ⟨he, rfl, _⟩ := ret_run (show (Pr.ret ([], [])).run P cr σ = _ from hr)
    cases he
    exact ⟨W, [], [], [], h, .refl _ _ _ _, ⟨[], rfl, by simp⟩, by simp, .nil, rfl, by simp, by simp, rfl, rfl⟩
  | cons rv rs ih =>
    intro σ W ss as σ' l h hr
    obtain ⟨⟨s, as1⟩, σ1, l1, l2, h1, h2, rfl⟩ := run_bind_some (show (resPr1 Γ rv >>= _).run P cr σ = _ from hr)
    obtain ⟨W1, f1, vs1, g1, g2, ⟨f1', g3, g4⟩, g5, g6, g7, g8⟩ := resPr1_ok hΓ h h1
    simp only at h2
    cases hs : isAggS s with
    | none => rw [hs] at h2; exact (fail_run h2).elim
    | some g =>
      rw [hs] at h2
      obtain ⟨⟨ss2, as2⟩, σ2, l3, l4, h3, h4, rfl⟩ := run_bind_some h2
      obtain ⟨he, rfl, _⟩ := ret_run h4
      cases he
      obtain ⟨W2, f2, vs2, xs, k1, k2, ⟨f2', k3, k4⟩, k5, k6, k7, k8, k9, k10, k11⟩ := ih g1 h3
      have hse := isAggS_spec hs
      subst hse
      have hl1 := g6.length
      have hn := k1.hnd
      rw [k3, g3] at hn
      refine ⟨W2, f1 ++ f2, vs1 ++ vs2, shVal (aggShape g) vs1 :: xs, k1, g2.trans k2, ⟨f2' ++ f1', by rw [k3, g3]; simp, ?_⟩, ?_, ?_, ?_, ?_, ?_, ?_, by simp [k11]⟩
      · intro b; simp [g4 b, k4 b, or_comm]
      · rw [List.nodup_append]
        simp only [List.nodup_append, List.mem_append] at hn
        refine ⟨g5, k5, fun b hb b2 hb2 he => ?_⟩
        subst he
        exact hn.2.2 b ((k4 b).1 hb2) b (.inl ((g4 b).1 hb)) rfl
      · exact (g6.mono (fun b hb => ⟨k2.sh b hb, rfl⟩) (fun _ _ => rfl) (fun _ _ h => h)).append k6
      · simp [shapeFit.tupSum, k7]
      · intro g' k hk hg
        rcases List.mem_cons.1 hk with he | hk
        · cases he
          subst hg
          exact g7
        · exact k8 g' k hk hg
      · simp [List.mapM_cons, g8, k9]
      · cases g with
        | true =>
          simp only [shVal.go, aggShape, shVal]
          rw [hl1, List.take_left, List.drop_left, k10]
        | false =>
          have h1' : as1.length = 1 := g7
          have hv1 : vs1.length = 1 := by omega
          obtain ⟨x, rfl⟩ := one_of_len hv1
          rw [h1']
          simp [shVal.go, aggShape, shVal, k10]

theorem run_results {fn : Func} {rs : List ResultVar} (hrs : fn.results.toList = rs) {tmps : Array Value} (a : Act) (ha : a.tmps = tmps) {xs : List Value} (h : (rs.mapM (resVal a)).run P w = .ok xs w) :
    (results fn tmps).run P w = .ok (if h : xs.length = 1 then xs[0] else .tuple xs.toArray) w := by
  subst ha
  have h2 : (fn.results.mapM (resVal a)).run P w = .ok xs.toArray w := by
    rw [Array.mapM_eq_mapM_toList, hrs]
    simp [h]
  have h3 : results fn a.tmps = (do
      let vs ← fn.results.mapM (resVal a)
      pure (if h : vs.size = 1 then vs[0] else .tuple vs)) := by
    unfold results
    congr 1
  rw [h3]
  simp [h2]

theorem resPr_ok (hΓ : EnvOk P Γ) (h : SR C σ a w W) {fn : Func} {rs : List ResultVar} (hrs : fn.results.toList = rs) {s : Shape} {as : List AV} {σ' : St} {l : Log} (hr : (resPr Γ rs).run P cr σ = some ((s, as), σ', l)) :
    ∃ W' f vs, SR C σ' a w W' ∧ Mv C w σ W σ' W' ∧ (∃ f', W'.hand = f' ++ W.hand ∧ ∀ b, b ∈ f ↔ b ∈ f') ∧ f.Nodup ∧ Rep w (fun _ => none) (Sh C σ' W' w) as vs f ∧ shapeFit s as.length ∧
      (results fn a.tmps).run P w = .ok (shVal s vs) w := by
  unfold resPr at hr
  split at hr
  · rename_i rv
    obtain ⟨W', f, vs, k1, k2, k3, k4, k5, k6, k7⟩ := resPr1_ok hΓ h hr
    refine ⟨W', f, vs, k1, k2, k3, k4, k5, k6, ?_⟩
    have := run_results (P := P) (w := w) hrs a rfl (xs := [shVal s vs]) (by simp [List.mapM_cons, k7])
    simpa using this
  · rename_i hne
    obtain ⟨⟨ss, as'⟩, σ1, l1, l2, h1, h2, rfl⟩ := run_bind_some hr
    obtain ⟨he, rfl, _⟩ := ret_run h2
    cases he
    obtain ⟨W', f, vs, xs, k1, k2, k3, k4, k5, k6, k7, k8, k9, k10⟩ := resPrs_ok hΓ h h1
    refine ⟨W', f, vs, k1, k2, k3, k4, k5, ⟨k6, k7⟩, ?_⟩
    have := run_results (P := P) (w := w) hrs a rfl k8
    rw [this]
    have hl : ¬ xs.length = 1 := by
      rw [k10]
      intro h1
      obtain ⟨x, hx⟩ := one_of_len h1
      exact hne x hx
    rw [dif_neg hl, k9]
    rfl

end Go.Vs

namespace Go.Vs

variable {C : Ctx} {σ : St} {a : Act} {w w' : World} {W : Wit} {P : Program} {cr : CallR} {Γ : Env}

def valsOf : List Arg → List (List Value) → List Value
  | (s, _) :: args, vs :: vss => shVal s vs :: valsOf args vss
  | _, _ => []

theorem Reps.unzip {S : Nat → Prop} {args : List Arg} {vals : List Value} {fp : List Nat} (h : Reps w S args vals fp) :
    ∃ (vss : List (List Value)) (fps : List (List Nat)), vss.length = args.length ∧ fps.length = args.length ∧ fp = fps.flatten ∧ vals = valsOf args vss ∧
      ∀ (j : Nat) (s : Shape) (as : List AV), args[j]? = some (s, as) → ∃ vs f, vss[j]? = some vs ∧ fps[j]? = some f ∧ Rep w (fun _ => none) S as vs f := by
  induction h with
  | nil => exact ⟨[], [], rfl, rfl, rfl, rfl, by simp⟩
  | cons h t ih =>
    rename_i s as vs f args vals fps0
    obtain ⟨vss, fps, h1, h2, h3, h4, h5⟩ := ih
    refine ⟨vs :: vss, f :: fps, by simp [h1], by simp [h2], by simp [h3], by simp [valsOf, h4], fun j s' as' hj => ?_⟩
    cases j with
    | zero => simp at hj; obtain ⟨rfl, rfl⟩ := hj; exact ⟨vs, f, rfl, rfl, h⟩
    | succ j => simp at hj; simpa using h5 j s' as' hj

theorem start_get (io : List Nat) : ∀ (args : List Arg) (i : Nat) (r : Rs), (startFrom io i args).get r = match r with
    | .sl k => (match (if i ≤ k then args[k - i]? else none) with | some (s, as) => ((0, 0), some (s, if io.contains k then exCells k 0 as else valTVs as)) | none => ((0, 0), none))
    | .ex k => (match (if i ≤ k then args[k - i]? else none) with | some (s, as) => (if io.contains k then ((0, 0), some (s, valTVs as)) else ((0, 0), none)) | none => ((0, 0), none))
    | .bx _ => ((0, 0), none)
    | .ow _ => ((0, 0), none)
  | [], i, r => by
    cases r with
    | bx k => rfl
    | ow k => rfl
    | sl k => simp [startFrom, St.get, St.find]
    | ex k => simp [startFrom, St.get, St.find]
  | (s, as) :: args, i, r => by
    have ih := start_get io args (i + 1) r
    have hne : ∀ k, i ≠ k → (if i ≤ k then ((s, as) :: args)[k - i]? else none) = (if i + 1 ≤ k then args[k - (i + 1)]? else none) := by
      intro k hk
      by_cases h : i ≤ k
      · have h1 : i + 1 ≤ k := by omega
        rw [if_pos h, if_pos h1]
        have h2 : k - i = (k - (i + 1)) + 1 := by omega
        rw [h2]; rfl
      · rw [if_neg h, if_neg (by omega)]
    unfold startFrom
    cases hio : io.contains i with
    | true =>
      have hm : i ∈ io := by simpa using hio
      show (St.put (St.put (startFrom io (i + 1) args) (.ex i) _) (.sl i) _).get r = _
      rw [St.get_put, St.get_put]
      cases r with
      | bx k => simpa using ih
      | ow k => simpa using ih
      | sl k =>
        by_cases hk : i = k
        · subst hk
          rw [if_pos rfl]
          simp [hm]
        · rw [if_neg (by simpa using hk), if_neg (by simp)]
          rw [ih]
          simp only
          rw [hne k hk]
      | ex k =>
        by_cases hk : i = k
        · subst hk
          rw [if_neg (by simp), if_pos rfl]
          simp [hm]
        · rw [if_neg (by simp), if_neg (by simpa using hk)]
          rw [ih]
          simp only
          rw [hne k hk]
    | false =>
      have hm : i ∉ io := by simpa using hio
      show (St.put (startFrom io (i + 1) args) (.sl i) _).get r = _
      rw [St.get_put]
      cases r with
      | bx k => simpa using ih
      | ow k => simpa using ih
      | sl k =>
        by_cases hk : i = k
        · subst hk
          rw [if_pos rfl]
          simp [hm]
        · rw [if_neg (by simpa using hk)]
          rw [ih]
          simp only
          rw [hne k hk]
      | ex k =>
        rw [if_neg (by simp)]
        by_cases hk : i = k
        · subst hk
          rw [ih]
          have h1 : ¬ (i + 1 ≤ i) := by omega
          simp [hm, h1]
        · rw [ih]
          simp only
          rw [hne k hk]

theorem S0_sh (h : SR C σ a w W) (hS : ∀ b, C.S0 b → b < C.w0.heap.size ∧ b ∉ C.fpIn) {b : Nat} (hb : C.S0 b) : Sh C σ W w b := by
  obtain ⟨h1, h2⟩ := hS b hb
  refine ⟨.inl hb, Nat.lt_of_lt_of_le h1 h.keep.size, ?_⟩
  rintro (⟨r, hr, hbr⟩ | ⟨x, hx⟩ | hbh)
  · rcases h.rng r hr b hbr with h3 | h3
    · omega
    · exact h2 h3
  · have := h.brng x b hx; omega
  · rcases (h.hrng b hbh).1 with h3 | h3
    · omega
    · exact h2 h3

theorem outsPr_ok (h : SR C σ a w W) (hS : ∀ b, C.S0 b → b < C.w0.heap.size ∧ b ∉ C.fpIn) {io : List Nat} {args : List Arg} : ∀ {i : Nat} {vss : List (List Value)} {outs : List Arg} {σ' : St} {l : Log},
    vss.length = args.length → (∀ (j : Nat) (s : Shape) (as : List AV) (vs : List Value), args[j]? = some (s, as) → vss[j]? = some vs → (io.contains (i + j) = false → Rep C.w0 (fun _ => none) C.S0 as vs []) ∧ C.cv0 (i + j) = vs) →
    (outsPr io i args).run P cr σ = some (outs, σ', l) →
    σ' = σ ∧ ∃ fp', Reps w (Sh C σ W w) outs (valsOf args vss) fp' ∧ fp'.Nodup ∧ ∀ b ∈ fp', ∃ k, i ≤ k ∧ live σ (.ex k) ∧ b ∈ W.fp (.ex k) := by
  induction args with
  | nil =>
    intro i vss outs σ' l hlen hv hr
    obtain ⟨rfl, rfl, _⟩ := ret_run (show (Pr.ret []).run P cr σ = _ from hr)
    exact ⟨rfl, [], .nil, by simp, by simp⟩
  | cons x args ih =>
    intro i vss outs σ' l hlen hv hr
    obtain ⟨s, as⟩ := x
    cases vss with
    | nil => simp at hlen
    | cons vs vss =>
      obtain ⟨h0, hcv⟩ := hv 0 s as vs rfl rfl
      simp only [Nat.add_zero] at h0 hcv
      have hv' : ∀ (j : Nat) (s : Shape) (as : List AV) (vs : List Value), args[j]? = some (s, as) → vss[j]? = some vs → (io.contains (i + 1 + j) = false → Rep C.w0 (fun _ => none) C.S0 as vs []) ∧ C.cv0 (i + 1 + j) = vs := by
        intro j s' as' vs' h1 h2
        have := hv (j + 1) s' as' vs' (by simpa using h1) (by simpa using h2)
        rw [show i + (j + 1) = i + 1 + j by omega] at this
        exact this
      unfold outsPr at hr
      cases hio : io.contains i with
      | true =>
        rw [hio] at hr
        obtain ⟨l1, h1, rfl⟩ := get_run hr
        cases hg : σ.get (.ex i) with
        | mk v o => cases o with
          | none => rw [hg] at h1; exact (fail_run h1).elim
          | some z =>
            obtain ⟨s2, tvs⟩ := z
            rw [hg] at h1
            obtain ⟨bs, σ1, l2, l3, h2, h3, rfl⟩ := run_bind_some h1
            have hlv : live σ (.ex i) := ⟨v, s2, tvs, hg⟩
            obtain ⟨e1, e2, e3⟩ := vals_ok (h.heldAll hg) h2
            subst e1
            obtain ⟨hok, h4⟩ := chk_run h3
            obtain ⟨r, σ2, l4, l5, h5, h6, rfl⟩ := run_bind_some h4
            obtain ⟨e4, fp', k1, k2, k3⟩ := ih (by simpa using hlen) hv' h5
            subst e4
            obtain ⟨rfl, rfl, _⟩ := ret_run h6
            rw [h.ext i hlv, hcv] at e3
            refine ⟨rfl, W.fp (.ex i) ++ fp', .cons (e3.noβs hok) k1, ?_, ?_⟩
            · rw [List.nodup_append]
              refine ⟨h.nd _ hlv, k2, fun b hb b2 hb2 he => ?_⟩
              subst he
              obtain ⟨k, hk1, hk2, hk3⟩ := k3 b hb2
              exact h.dis (.ex i) (.ex k) hlv hk2 (by simp; omega) b hb hk3
            · intro b hb
              rcases List.mem_append.1 hb with hb | hb
              · exact ⟨i, Nat.le_refl _, hlv, hb⟩
              · obtain ⟨k, hk1, hk2, hk3⟩ := k3 b hb
                exact ⟨k, by omega, hk2, hk3⟩
      | false =>
        rw [hio] at hr
        obtain ⟨r, σ2, l4, l5, h5, h6, rfl⟩ := run_bind_some hr
        obtain ⟨e4, fp', k1, k2, k3⟩ := ih (by simpa using hlen) hv' h5
        subst e4
        obtain ⟨rfl, rfl, _⟩ := ret_run h6
        have hrep := (h0 hio).mono (w' := w) (β' := fun _ => none) (S' := Sh C σ' W w) (fun b hb => ⟨S0_sh h hS hb, h.keep.block b (hS b hb).1 (hS b hb).2⟩) (by simp) (fun _ _ h => h)
        refine ⟨rfl, fp', .cons (fp := []) hrep k1, k2, fun b hb => ?_⟩
        obtain ⟨k, hk1, hk2, hk3⟩ := k3 b hb
        exact ⟨k, by omega, hk2, hk3⟩

end Go.Vs

namespace Go.Vs

variable {C : Ctx} {σ : St} {a : Act} {w w' : World} {W : Wit} {P : Program} {cr : CallR} {Γ : Env}

theorem argsOk_spec {io : List Nat} : ∀ {args : List Arg} {i : Nat}, argsOk io i args = true → ∀ (j : Nat) (s : Shape) (as : List AV), args[j]? = some (s, as) → fitB s as.length = true ∧ (io.contains (i + j) = false → anyOwns as = false)
  | [], i, h, j, s, as, hj => by simp at hj
  | (s0, as0) :: args, i, h, j, s, as, hj => by
    simp only [argsOk, Bool.and_eq_true, Bool.or_eq_true] at h
    cases j with
    | zero =>
      simp at hj
      obtain ⟨rfl, rfl⟩ := hj
      refine ⟨h.1.1, fun hc => ?_⟩
      rcases h.1.2 with h1 | h1
      · rw [Nat.add_zero] at hc; rw [hc] at h1; cases h1
      · simpa using h1
    | succ j =>
      have := argsOk_spec h.2 j s as (by simpa using hj)
      rw [show i + (j + 1) = i + 1 + j by omega]
      exact this

theorem fitB_spec {s : Shape} {n : Nat} (h : fitB s n = true) : shapeFit s n := by
  cases s <;> simp [fitB] at h
  · exact h
  · trivial

theorem exCells_length (k : Nat) : ∀ (as : List AV) (c : Nat), (exCells k c as).length = as.length
  | [], _ => rfl
  | x :: as, c => by simp [exCells, exCells_length k as (c + 1)]

theorem exCells_get (k : Nat) : ∀ (as : List AV) (c0 c : Nat), (exCells k c0 as)[c]? = as[c]?.map fun x => match x.owns with | true => TV.ref (.ex k) (c0 + c) (0, 0) [] | false => .val x
  | [], _, c => by simp [exCells]
  | x :: as, c0, 0 => by simp [exCells]; rfl
  | x :: as, c0, c + 1 => by
    simp only [exCells, List.getElem?_cons_succ]
    rw [exCells_get k as (c0 + 1) c]
    congr 1
    funext y
    rw [show c0 + 1 + c = c0 + (c + 1) by omega]

theorem exCells_rep {S S' : Nat → Prop} {β : Nat → Option Nat} (hS : ∀ b, S b → S' b) (k : Nat) : ∀ (as : List AV) (c : Nat) {vs : List Value} {f : List Nat}, Rep w (fun _ => none) S as vs f → Rep w β S' ((exCells k c as).map own) vs []
  | [], c, vs, f, h => by cases h; exact .nil
  | x :: as, c, vs, f, h => by
    obtain ⟨v, us, f1, f2, rfl, rfl, h1, h2⟩ := Rep.uncons h
    have ht := exCells_rep (β := β) hS k as (c + 1) h2
    cases ho : x.owns with
    | true =>
      have : (exCells k c (x :: as)).map own = .any :: (exCells k (c + 1) as).map own := by simp [exCells, ho, own]
      rw [this]
      exact .any h1.oneCell ht
    | false =>
      have : (exCells k c (x :: as)).map own = x :: (exCells k (c + 1) as).map own := by simp [exCells, ho, own]
      rw [this]
      have hf : f1 = [] := h1.fp_nil ho
      subst hf
      exact Rep.cons (f1 := []) (h1.mono (fun b hb => ⟨hS b hb, rfl⟩) (fun _ _ => rfl) (by simp)) ht

theorem flat_mem {fps : List (List Nat)} {j : Nat} {f : List Nat} (h : fps[j]? = some f) {b : Nat} (hb : b ∈ f) : b ∈ fps.flatten := by
  rw [List.mem_flatten]
  exact ⟨f, List.mem_of_getElem? h, hb⟩

theorem flat_nodup {fps : List (List Nat)} (h : fps.flatten.Nodup) : (∀ (j : Nat) (f : List Nat), fps[j]? = some f → f.Nodup) ∧
    (∀ (i j : Nat) (f g : List Nat), fps[i]? = some f → fps[j]? = some g → i ≠ j → ∀ b ∈ f, b ∉ g) := by
  induction fps with
  | nil => exact ⟨by simp, by simp⟩
  | cons f0 fps ih =>
    rw [List.flatten_cons, List.nodup_append] at h
    obtain ⟨h1, h2, h3⟩ := h
    obtain ⟨k1, k2⟩ := ih h2
    refine ⟨fun j f hj => ?_, fun i j f g hi hj hne b hb hb2 => ?_⟩
    · cases j with
      | zero => simp at hj; subst hj; exact h1
      | succ j => exact k1 j f (by simpa using hj)
    · cases i with
      | zero =>
        simp at hi; subst hi
        cases j with
        | zero => exact hne rfl
        | succ j => exact h3 b hb b (flat_mem (by simpa using hj) hb2) rfl
      | succ i =>
        cases j with
        | zero => simp at hj; subst hj; exact h3 b hb2 b (flat_mem (by simpa using hi) hb) rfl
        | succ j => exact k2 i j f g (by simpa using hi) (by simpa using hj) (by omega) b hb hb2

theorem valsOf_get : ∀ {args : List Arg} {vss : List (List Value)} {j : Nat} {s : Shape} {as : List AV} {vs : List Value}, args[j]? = some (s, as) → vss[j]? = some vs → (valsOf args vss)[j]? = some (shVal s vs)
  | [], _, j, s, as, vs, h, _ => by simp at h
  | x :: args, [], j, s, as, vs, _, h => by simp at h
  | (s0, as0) :: args, vs0 :: vss, 0, s, as, vs, h, k => by
    simp at h k
    obtain ⟨rfl, rfl⟩ := h
    subst k
    rfl
  | (s0, as0) :: args, vs0 :: vss, j + 1, s, as, vs, h, k => by
    simp only [valsOf, List.getElem?_cons_succ] at h k ⊢
    exact valsOf_get h k

theorem valsOf_length : ∀ {args : List Arg} {vss : List (List Value)}, vss.length = args.length → (valsOf args vss).length = args.length
  | [], [], _ => rfl
  | [], _ :: _, h => by simp at h
  | _ :: _, [], h => by simp at h
  | (s, as) :: args, vs :: vss, h => by simp [valsOf, valsOf_length (args := args) (vss := vss) (by simpa using h)]

/-- Where a call begins. -/
theorem start_ok {S : Nat → Prop} {io : List Nat} {args : List Arg} {vss : List (List Value)} {fps : List (List Nat)} (hv : vss.length = args.length) (hok : argsOk io 0 args = true)
    (hS : ∀ b, S b → b < w.heap.size ∧ b ∉ fps.flatten) (hnd : fps.flatten.Nodup)
    (hrep : ∀ (j : Nat) (s : Shape) (as : List AV), args[j]? = some (s, as) → ∃ vs f, vss[j]? = some vs ∧ fps[j]? = some f ∧ Rep w (fun _ => none) S as vs f) (rest : Array Value) {P : Program} (hgl : Gl P w S) :
    ∃ W, SR ⟨S, fps.flatten, w, fun i => vss.getD i [], tabOf P⟩ (startFrom io 0 args) { tmps := (valsOf args vss).toArray ++ rest, defers := [] } w W ∧ W.hand = [] := by
  have hget := start_get io args 0
  simp only [Nat.zero_le, if_true, Nat.sub_zero] at hget
  have hsl : ∀ i v s tvs, (startFrom io 0 args).get (.sl i) = (v, some (s, tvs)) → ∃ as, args[i]? = some (s, as) ∧ v = (0, 0) ∧ tvs = (if io.contains i then exCells i 0 as else valTVs as) := by
    intro i v s tvs h
    rw [hget] at h
    simp only at h
    split at h
    · rename_i s0 as h1; cases h; exact ⟨as, h1, rfl, rfl⟩
    · cases h
  have hex : ∀ i v s tvs, (startFrom io 0 args).get (.ex i) = (v, some (s, tvs)) → ∃ as, args[i]? = some (s, as) ∧ v = (0, 0) ∧ tvs = valTVs as ∧ io.contains i = true := by
    intro i v s tvs h
    rw [hget] at h
    simp only at h
    split at h
    · rename_i s0 as h1
      split at h
      · rename_i h2; cases h; exact ⟨as, h1, rfl, rfl, h2⟩
      · cases h
    · cases h
  have hbx : ∀ i v s tvs, (startFrom io 0 args).get (.bx i) = (v, some (s, tvs)) → False := by
    intro i v s tvs h
    rw [hget] at h
    cases h
  have hbo : ∀ i v s tvs, (startFrom io 0 args).get (.ow i) = (v, some (s, tvs)) → False := by
    intro i v s tvs h
    rw [hget] at h
    cases h
  let W0 : Wit := { β := fun _ => none, cv := fun r => match r with | .sl i | .ex i => vss.getD i [] | .bx _ => [] | .ow _ => [], fp := fun r => match r with | .ex i => fps.getD i [] | _ => [], hand := [] }
  have hfpm : ∀ r b, b ∈ W0.fp r → b ∈ fps.flatten := by
    intro r b hb
    cases r with
    | ex i =>
      have hb' : b ∈ fps.getD i [] := hb
      rw [List.getD_eq_getElem?_getD] at hb'
      cases hf : fps[i]? with
      | none => rw [hf] at hb'; simp at hb'
      | some f => rw [hf] at hb'; exact flat_mem hf hb'
    | sl i => cases hb
    | bx i => cases hb
    | ow i => cases hb
  have hSh : ∀ b, S b → Sh ⟨S, fps.flatten, w, fun i => vss.getD i [], tabOf P⟩ (startFrom io 0 args) W0 w b := by
    intro b hb
    refine ⟨.inl hb, (hS b hb).1, ?_⟩
    rintro (⟨r, _, hbr⟩ | ⟨x, hx⟩ | hbh)
    · exact (hS b hb).2 (hfpm r b hbr)
    · cases hx
    · cases hbh
  have hcvj : ∀ (j : Nat) (vs : List Value), vss[j]? = some vs → vss.getD j [] = vs := by
    intro j vs h; rw [List.getD_eq_getElem?_getD, h]; rfl
  have hfpj : ∀ (j : Nat) (f : List Nat), fps[j]? = some f → fps.getD j [] = f := by
    intro j vs h; rw [List.getD_eq_getElem?_getD, h]; rfl
  obtain ⟨hn1, hn2⟩ := flat_nodup hnd
  refine ⟨W0, ⟨?_, ?_, ?_, ?_, ?_, ?_, ?_, ?_, ?_, ?_, ?_, ?_, by simp [W0], by simp [W0], by simp [W0], Keeps.refl _ _, rfl, fun g cs h1 => ⟨hSh g (hgl g cs h1).1, (hgl g cs h1).2⟩⟩, rfl⟩
  · intro i v s tvs h
    obtain ⟨as, h1, -, rfl⟩ := hsl i v s tvs h
    obtain ⟨vs, f, h2, h3, h4⟩ := hrep i s as h1
    have hi : i < args.length := (List.getElem?_eq_some_iff.1 h1).1
    refine ⟨?_, ?_⟩
    · show ((valsOf args vss).toArray ++ rest)[i]? = some (shVal s (vss.getD i []))
      rw [hcvj i vs h2, Array.getElem?_append_left (by simp [valsOf_length hv]; exact hi)]
      simpa using valsOf_get h1 h2
    · have := fitB_spec (argsOk_spec hok i s as h1).1
      split
      · rw [exCells_length]; exact this
      · rw [valTVs_length]; exact this
  · intro b v s tvs h; exact (hbx b v s tvs h).elim
  · intro b g h; cases h
  · intro i h; rfl
  · intro r v s tvs h
    cases r with
    | bx i => exact (hbx i v s tvs h).elim
    | ow i => exact (hbo i v s tvs h).elim
    | ex i =>
      obtain ⟨as, h1, -, rfl, -⟩ := hex i v s tvs h
      obtain ⟨vs, f, h2, h3, h4⟩ := hrep i s as h1
      show Rep w (fun _ => none) _ ((valTVs as).map own) (vss.getD i []) (fps.getD i [])
      rw [valTVs_own, hcvj i vs h2, hfpj i f h3]
      exact h4.mono (fun b hb => ⟨hSh b hb, rfl⟩) (fun _ _ => rfl) (fun _ _ h => h)
    | sl i =>
      obtain ⟨as, h1, -, rfl⟩ := hsl i v s tvs h
      obtain ⟨vs, f, h2, h3, h4⟩ := hrep i s as h1
      show Rep w (fun _ => none) _ (List.map own _) (vss.getD i []) []
      rw [hcvj i vs h2]
      split
      · exact exCells_rep hSh i as 0 h4
      · rename_i hio
        have hf := anyOwns_nil h4 ((argsOk_spec hok i s as h1).2 (by simpa using hio))
        subst hf
        rw [valTVs_own]
        exact h4.mono (fun b hb => ⟨hSh b hb, rfl⟩) (fun _ _ => rfl) (fun _ _ h => h)
  · intro r v s tvs h c t x ht hx
    cases r with
    | bx i => exact (hbx i v s tvs h).elim
    | ow i => exact (hbo i v s tvs h).elim
    | ex i =>
      obtain ⟨as, h1, -, rfl, -⟩ := hex i v s tvs h
      exact valTVs_refs as c t x ht
    | sl i =>
      obtain ⟨as, h1, -, rfl⟩ := hsl i v s tvs h
      obtain ⟨vs, f, h2, h3, h4⟩ := hrep i s as h1
      split at ht
      · rename_i hio
        rw [exCells_get] at ht
        cases hac : as[c]? with
        | none => rw [hac] at ht; cases ht
        | some y =>
          rw [hac] at ht
          simp only [Option.map_some, Option.some.injEq] at ht
          have hx' : vs[c]? = some x := by
            have : (vss.getD i [])[c]? = some x := hx
            rw [hcvj i vs h2] at this; exact this
          obtain ⟨u, f1, fc, f2, hu, _, hone, _⟩ := h4.at hac
          rw [hx'] at hu; cases hu
          split at ht
          · subst ht
            have hg : (startFrom io 0 args).get (.ex i) = ((0, 0), some (s, valTVs as)) := by
              rw [hget]
              simp only [h1]
              rw [if_pos hio]
            refine ⟨hone.oneCell, ?_, fun v' s' tvs' hr' hv' => ⟨x, ?_, .inl ⟨rfl, rfl⟩⟩⟩
            · unfold VerB
              rw [hg]
              exact .inr ⟨rfl, Nat.le_refl _⟩
            · rw [Nat.zero_add]; exact hx
          · subst ht; trivial
      · exact valTVs_refs as c t x ht
  · intro r hr
    cases r with
    | ex i =>
      show (fps.getD i []).Nodup
      cases hf : fps[i]? with
      | none => rw [List.getD_eq_getElem?_getD, hf]; simp
      | some f => rw [hfpj i f hf]; exact hn1 i f hf
    | sl i => simp [W0]
    | bx i => simp [W0]
    | ow i => simp [W0]
  · intro r r' hr hr' hne b hb hb2
    cases r with
    | ex i =>
      cases r' with
      | ex j =>
        have hij : i ≠ j := fun e => hne (by rw [e])
        have h1 : b ∈ fps.getD i [] := hb
        have h2 : b ∈ fps.getD j [] := hb2
        cases hf : fps[i]? with
        | none => rw [List.getD_eq_getElem?_getD, hf] at h1; simp at h1
        | some f =>
          cases hg : fps[j]? with
          | none => rw [List.getD_eq_getElem?_getD, hg] at h2; simp at h2
          | some g =>
            rw [hfpj i f hf] at h1
            rw [hfpj j g hg] at h2
            exact hn2 i j f g hf hg hij b h1 h2
      | sl j => cases hb2
      | bx j => cases hb2
      | ow j => cases hb2
    | sl i => cases hb
    | bx i => cases hb
    | ow i => cases hb
  · intro x y g hx; cases hx
  · intro x g r hx; cases hx
  · intro x g hx; cases hx
  · intro r hr b hb; exact .inr (hfpm r b hb)

end Go.Vs

namespace Go.Vs

variable {P : Program} {Γ : Env}

/-- A FUNCTION THAT IS SATISFIED KEEPS ITS CONTRACT. -/
theorem fok (hΓ : EnvOk P Γ) (hm : P.follows .mixedOrders = true) {f : FuncId} {c : Code} {rs : List ResultVar} {n : Nat} (hfn : FnIs P f c rs n) {args outs : List Arg} {res : Arg} (h : FSat P Γ f c rs n args outs res) :
    FOk P f args outs res := by
  obtain ⟨fn, hf, hb, hrs, hnt, hname⟩ := hfn.ex
  obtain ⟨hok, hlen, hawp⟩ := h
  have hlen' : args.length ≤ n := by simpa using hlen
  refine ⟨⟨fn, c, hf, hb, hname⟩, fun w S vals fp hS hnd hfp hreps hgl => ?_⟩
  obtain ⟨vss, fps, h1, h2, rfl, rfl, h3⟩ := hreps.unzip
  have hvl := valsOf_length h1
  obtain ⟨W0, hsr, hh⟩ := start_ok h1 hok hS hnd h3 (Array.replicate (fn.ntmps - (valsOf args vss).toArray.size) undef) hgl
  haveI : TabFact ⟨S, fps.flatten, w, fun i => vss.getD i [], tabOf P⟩ P := ⟨rfl⟩
  refine calls_of_wp hf hb ?_
  refine awp_sound (N := n) hΓ hm c _ _ _ _ _ W0 hawp hsr hh (by simp [hvl, hnt]; omega) hfn.ok ?_
  intro e τ a w' W hq hs hh hN
  obtain ⟨hret, hsat⟩ := hq
  have hsat' := sat0_run P ⟨[], (.one, [])⟩ (endPr Γ ((findNat Γ.io f).getD []) args rs) τ [] _ hsat
  obtain ⟨⟨res0, outs0⟩, σ', l, hrun, hfr, hfo⟩ := hsat'
  dsimp only at hfr hfo
  suffices hgoal : ∃ v, (results fn a.tmps).run P w' = .ok v w' ∧ FPost w S (valsOf args vss) fps.flatten outs0 res0 (.returned v) w' by
    obtain ⟨v, q8, hpost⟩ := hgoal
    have hres : a.defers = [] ∧ ∃ v, (results fn a.tmps).run P w' = .ok v w' ∧ FPost w S (valsOf args vss) fps.flatten outs res (.returned v) w' :=
      ⟨hs.dfr, v, q8, hpost.wk hfo hfr⟩
    cases e with
    | normal => exact hres
    | ret => exact hres
    | _ => cases hret
  obtain ⟨r, σ1, l1, l2, k1, k2, rfl⟩ := run_bind_some hrun
  obtain ⟨o, σ2, l3, l4, k3, k4, rfl⟩ := run_bind_some k2
  obtain ⟨he, rfl, _⟩ := ret_run k4
  cases he
  obtain ⟨s, as⟩ := res0
  obtain ⟨W1, fpr, rvs, q1, q2, ⟨fpr', q3, q4⟩, q5, q6, q7, q8⟩ := resPr_ok hΓ hs hrs k1
  rw [hh, List.append_nil] at q3
  have hvv : ∀ (j : Nat) (s : Shape) (as : List AV) (vs : List Value), args[j]? = some (s, as) → vss[j]? = some vs → (((findNat Γ.io f).getD []).contains (0 + j) = false → Rep w (fun _ => none) S as vs []) ∧ vss.getD (0 + j) [] = vs := by
    intro j s as vs hj hvj
    obtain ⟨vs', f', g1, g2, g3⟩ := h3 j s as hj
    rw [hvj] at g1; cases g1
    refine ⟨fun hio => ?_, by rw [Nat.zero_add, List.getD_eq_getElem?_getD, hvj]; rfl⟩
    have := anyOwns_nil g3 ((argsOk_spec hok j s as hj).2 hio)
    subst this
    exact g3
  obtain ⟨rfl, fp', p1, p2, p3⟩ := outsPr_ok q1 hS h1 hvv k3
  have hpost : FPost w S (valsOf args vss) fps.flatten outs0 (s, as) (.returned (shVal s rvs)) w' := by
    have hhand : ∀ b ∈ fpr, b ∈ W1.hand := fun b hb => by rw [q3]; exact (q4 b).1 hb
    have hShS : ∀ b, Sh { S0 := S, fpIn := fps.flatten, w0 := w, cv0 := fun i => vss.getD i [], tab := tabOf P } σ' W1 w' b → (S b ∨ b ∈ fps.flatten ∨ w.heap.size ≤ b) ∧ b < w'.heap.size ∧ b ∉ fpr ++ fp' := by
      rintro b ⟨g1, g2, g3⟩
      refine ⟨?_, g2, fun hb => g3 ?_⟩
      · rcases g1 with g1 | g1 | g1
        · exact .inl g1
        · exact .inr (.inr g1)
        · exact .inr (.inl g1)
      · rcases List.mem_append.1 hb with hb | hb
        · exact .inr (.inr (hhand b hb))
        · obtain ⟨k, -, g4, g5⟩ := p3 b hb
          exact .inl ⟨_, g4, g5⟩
    refine ⟨rvs, fpr, fp', rfl, q7, q1.keep, ?_, ?_, q6.mono (fun b hb => ⟨hShS b hb, rfl⟩) (fun _ _ => rfl) (fun _ _ h => h), p1.mono hShS⟩
    · rw [List.nodup_append]
      refine ⟨q5, p2, fun b hb b2 hb2 he => ?_⟩
      subst he
      obtain ⟨k, -, g4, g5⟩ := p3 b hb2
      exact (q1.hdis b (hhand b hb)).1 _ g4 g5
    · intro b hb
      rcases List.mem_append.1 hb with hb | hb
      · obtain ⟨g1, g2⟩ := q1.hrng b (hhand b hb)
        exact ⟨g1.symm, g2⟩
      · obtain ⟨k, -, g4, g5⟩ := p3 b hb
        obtain ⟨v, s', tvs, hg⟩ := g4
        exact ⟨(q1.rng _ ⟨v, s', tvs, hg⟩ b g5).symm, (q1.rep _ v s' tvs hg).fp_lt b g5⟩
  exact ⟨_, q8, hpost⟩

end Go.Vs

namespace Go.Vs

theorem findNat_mem {α : Type} {l : List (Nat × α)} {n : Nat} {x : α} (h : findNat l n = some x) : (n, x) ∈ l := by
  induction l with
  | nil => simp [findNat] at h
  | cons y l ih =>
    obtain ⟨k, z⟩ := y
    simp only [findNat] at h
    cases hk : Nat.beq k n with
    | true =>
      rw [hk] at h
      simp only [cond_true, Option.some.injEq] at h
      have : k = n := by simpa using hk
      subst this; subst h; simp
    | false =>
      rw [hk] at h
      simp only [cond_false] at h
      simp [ih h]

theorem envOk_of {P : Program} {Γ : Env} (h : ∀ x ∈ Γ.ty, TyOk P x.1 x.2) : EnvOk P Γ := fun _ _ hi => h _ (findNat_mem hi)

theorem Fn.and {P : Program} {f : FuncId} {args outs : List Arg} {res res' : Arg} (h : FOk P f args outs res) (e : res = res') : FOk P f args outs res' := e ▸ h

end Go.Vs

namespace Go.Vs

/-! ### Stepping: the small words -/

theorem Cl.eq {P : Program} {f : FuncId} {args args' outs : List Arg} {res : Arg} {F : CallR → Prop} (h : FOk P f args' outs res) (e : args = args') (h1 : F ⟨outs, res⟩) : Cl P f args F := ⟨⟨outs, res⟩, e ▸ h, h1⟩

theorem Cl.pre {P : Program} {f : FuncId} {args args' : List Arg} {F : CallR → Prop} (e : args = args') (h : Cl P f args' F) : Cl P f args F := e ▸ h

theorem Br.tt {X Y : Prop} (h : X) : Br true X Y := ⟨fun _ => h, fun h => absurd h (by decide)⟩
theorem Br.ff {X Y : Prop} (h : Y) : Br false X Y := ⟨fun h => absurd h (by decide), fun _ => h⟩

theorem Br.bself {b : Bool} {X Y : Prop} (h : Y) : Br (!(b == b)) X Y := by
  rw [beq_self_eq_true]; exact Br.ff h
theorem Br.iself {x : Int} {X Y : Prop} (h : Y) : Br (x != x) X Y := by
  rw [bne_self_eq_false]; exact Br.ff h
theorem Br.dself {α : Type} {a : α} [DecidableEq α] {X Y : Prop} (h : Y) : Br (!decide (a = a)) X Y := by
  rw [decide_eq_true (rfl : a = a)]; exact Br.ff h

theorem Br.not {b : Bool} {X Y : Prop} (h1 : b = false → X) (h2 : b = true → Y) : Br (!b) X Y := ⟨fun h => h1 (by simpa using h), fun h => h2 (by simpa using h)⟩

abbrev cI (x : Int) : AV := .v (.int .i64 x)
abbrev cB (x : Bool) : AV := .v (.bool x)
abbrev cS (x : ByteArray) : AV := .v (.string x)
abbrev cY (x : UInt8) : AV := .v (.int .u8 x.toNat)
abbrev ints (l : List Int) : List (List AV) := l.map fun x => [cI x]
abbrev byts (l : List UInt8) : List (List AV) := l.map fun x => [cY x]
abbrev strs (l : List ByteArray) : List (List AV) := l.map fun x => [cS x]
abbrev sl (o : Bool) (s : Nat) (els : List (List AV)) : AV := .sl o .unk s els
abbrev cIs (o : Bool) (l : List Int) : AV := sl o 1 (ints l)
abbrev cYs (o : Bool) (l : List UInt8) : AV := sl o 1 (byts l)
abbrev cSs (o : Bool) (l : List ByteArray) : AV := sl o 1 (strs l)
abbrev O (x : AV) : Arg := (.one, [x])
abbrev A (l : List AV) : Arg := (.agg, l)
abbrev I (x : Int) : Arg := O (cI x)
abbrev B (x : Bool) : Arg := O (cB x)
abbrev S (x : ByteArray) : Arg := O (cS x)
abbrev Is (o : Bool) (l : List Int) : Arg := O (cIs o l)
abbrev Ys (o : Bool) (l : List UInt8) : Arg := O (cYs o l)
abbrev Ss (o : Bool) (l : List ByteArray) : Arg := O (cSs o l)

/-- A slot, a box, a pointer to it, at a loop's head. -/
abbrev Sa (t : Nat) (a : Arg) : Rs × RV := (.sl t, ((0, 0), some (a.1, valTVs a.2)))
abbrev Bx (t : Nat) (cells : List AV) : Rs × RV := (.bx t, ((0, 0), some (.agg, valTVs cells)))
abbrev Pt (t : Nat) : Rs × RV := (.sl t, ((0, 0), some (.one, [.val (.bp t 0)])))

/-- A lent argument: what it holds; the slot that views it. -/
abbrev Ex (j : Nat) (a : Arg) : Rs × RV := (.ex j, ((0, 0), some (a.1, valTVs a.2)))
/-- An owned box that lies aside; the slot that views it. -/
abbrev Ow (j : Nat) (a : Arg) : Rs × RV := (.ow j, ((0, 0), some (a.1, valTVs a.2)))
abbrev Rw (t : Nat) : Rs × RV := (.sl t, ((0, 0), some (.one, [.ref (.ow t) 0 (0, 0) []])))
abbrev Rf (t j : Nat) : Rs × RV := (.sl t, ((0, 0), some (.one, [.ref (.ex j) 0 (0, 0) []])))

/-! Two states, place by place -/
theorem consE {α : Type} {a b : α} {l m : List α} (h : a = b) (t : l = m) : a :: l = b :: m := by rw [h, t]
theorem entE {r : Rs} {v : Nat × Nat} {s : Shape} {x y : List TV} (h : x = y) : (r, (v, some (s, x))) = (r, (v, some (s, y))) := by rw [h]
theorem vI {k : IntKind} {x y : Int} (h : x = y) : TV.val (.v (.int k x)) = TV.val (.v (.int k y)) := by rw [h]
theorem vS {o : Bool} {n : NF} {s : Nat} {x y : List (List AV)} (h : x = y) : TV.val (.sl o n s x) = TV.val (.sl o n s y) := by rw [h]
theorem vT {x y : ByteArray} (h : x = y) : TV.val (.v (.string x)) = TV.val (.v (.string y)) := by rw [h]
theorem vB {x y : Bool} (h : x = y) : TV.val (.v (.bool x)) = TV.val (.v (.bool y)) := by rw [h]

theorem wrapI {x : Int} (h : -9223372036854775808 ≤ x) (h' : x ≤ 9223372036854775807) : IntKind.wrap .i64 x = x := by
  rw [IntKind.wrap_i64]; omega

theorem wrapQ {a b : Int} (h : 0 ≤ a) (h' : a ≤ 9223372036854775807) (hb : 0 < b) : IntKind.wrap .i64 (a.tdiv b) = a / b := by
  rw [Int.tdiv_eq_ediv_of_nonneg h]
  have h1 : 0 ≤ a / b := Int.ediv_nonneg h (by omega)
  have h2 : a / b ≤ a := Int.ediv_le_self _ h
  exact wrapI (by omega) (by omega)

theorem tmodN {a b : Int} (h : 0 ≤ a) : a.tmod b = a % b := Int.tmod_eq_emod_of_nonneg h

def mi (a b : Int) : Int := if b < a then b else a
def ma (a b : Int) : Int := if b > a then b else a
theorem mi_eq (a b : Int) : (if b < a then b else a) = mi a b := rfl
theorem ma_eq (a b : Int) : (if b > a then b else a) = ma a b := rfl

theorem szS (s : ByteArray) : ((s.size : Nat) : Int) = (s.size : Int) := rfl
/-- An index loop over the letters of a text. -/
theorem getT {s : ByteArray} {d r : List UInt8} {c : UInt8} {i : Int} (h : s.data.toList = d ++ c :: r) (hi : i = (d.length : Nat)) : (((s.data.toList.getD i.toNat 0).toNat : Nat) : Int) = (c.toNat : Int) := by
  subst hi; rw [h]; simp

theorem len1 {α : Type} {d : List α} {x : α} : (((d ++ [x]).length : Nat) : Int) = (d.length : Int) + 1 := by simp

theorem lenC {α : Type} {c : α → List AV} {l : List α} : ((l.map c).length : Int) = (l.length : Int) := by simp

theorem getC {α : Type} {c : α → List AV} {l : List α} {i : Int} {k : Nat} (hi : i = k) {x : α} (h : l[k]? = some x) : (l.map c)[i.toNat]? = some (c x) := by
  subst hi; simp [h]

/-- An index loop over 'd ++ x :: r' stands at x. -/
theorem getA {α : Type} {c : α → List AV} {d r : List α} {x : α} {i : Int} (hi : i = (d.length : Nat)) : ((d ++ x :: r).map c)[i.toNat]? = some (c x) := by
  subst hi; simp

theorem getH {α : Type} {c : α → List AV} {l d r : List α} {x : α} {i : Int} (h : l = d ++ x :: r) (hi : i = (d.length : Nat)) : (l.map c)[i.toNat]? = some (c x) := by
  subst h; exact getA hi

/-- .. and writes there. -/
theorem setA {α : Type} {c : α → List AV} {d r : List α} {x : α} {z : List AV} : ((d.map c) ++ List.replicate (x :: r).length z).set d.length (c x) = (d ++ [x]).map c ++ List.replicate r.length z := by
  simp [List.set_append_right, List.replicate_succ]

theorem shcLL_map {α : Type} {c c' : α → List AV} (h : ∀ x, shcL (c x) = c' x) (l : List α) : shcLL (l.map c) = l.map c' := by
  induction l with
  | nil => rfl
  | cons x l ih => simp [shcLL, h, ih]

theorem dOwnLL_of {α : Type} {c : α → List AV} (h : ∀ x, dOwnL (c x)) (l : List α) : dOwnLL (l.map c) := by
  induction l with
  | nil => exact trivial
  | cons x l ih => exact ⟨h x, ih⟩
@[simp] theorem dOwnLL_append (a b : List (List AV)) : dOwnLL (a ++ b) ↔ dOwnLL a ∧ dOwnLL b := by
  induction a with
  | nil => simp [dOwnLL]
  | cons x a ih => simp [dOwnLL, ih, and_assoc]
@[simp] theorem dOwnLL_ints (l : List Int) : dOwnLL (l.map fun x => [cI x]) := dOwnLL_of (fun _ => by simp [dOwnL, dOwn]) l
@[simp] theorem dOwnLL_byts (l : List UInt8) : dOwnLL (l.map fun x => [cY x]) := dOwnLL_of (fun _ => by simp [dOwnL, dOwn]) l
@[simp] theorem dOwnLL_strs (l : List ByteArray) : dOwnLL (l.map fun x => [cS x]) := dOwnLL_of (fun _ => by simp [dOwnL, dOwn]) l

@[simp] theorem shcLL_ints (l : List Int) : shcLL (ints l) = ints l := shcLL_map (fun _ => rfl) l
@[simp] theorem shcLL_byts (l : List UInt8) : shcLL (byts l) = byts l := shcLL_map (fun _ => rfl) l
@[simp] theorem shcLL_strs (l : List ByteArray) : shcLL (strs l) = strs l := shcLL_map (fun _ => rfl) l

theorem shcLL_append (a b : List (List AV)) : shcLL (a ++ b) = shcLL a ++ shcLL b := by
  induction a with
  | nil => rfl
  | cons x a ih => simp [shcLL, ih]

theorem shc_t (n : NF) (s : Nat) (els : List (List AV)) : shc (.sl true n s els) = .sl false n s (shcLL els) := rfl
theorem shc_f (n : NF) (s : Nat) (els : List (List AV)) : shc (.sl false n s els) = .sl false n s els := rfl
theorem shc_v (x : Value) : shc (.v x) = .v x := rfl

theorem Br.dec' {p : Prop} [Decidable p] {X Y : Prop} (h1 : p → X) (h2 : ¬p → Y) : Br (decide p) X Y := Br.dec h1 h2

/-- A law's function is met at every call. -/
theorem WkL.sl1 {o : Bool} {n : NF} {s : Nat} {els els' : List (List AV)} {as bs : List AV} (he : els = els') (h : WkL as bs) : WkL (.sl o n s els :: as) (.sl o .unk s els' :: bs) := he ▸ .top h

end Go.Vs

namespace Go.Vs

/-! ### What the caller hands over reads as data of our own -/

abbrev none1 : Nat → Option Nat := fun _ => none
abbrev Old (w : World) : Nat → Prop := fun b => b < w.heap.size

def Opens (P : Program) (t : TypeId) {α : Type} (c : α → List AV) (good : α → Prop) : Prop :=
  ∀ {H : Type} (enc : TypeId × Value → H) (w : World) (n : Nat) (cs : List Value) (x : DataW H × List MemPlace),
    DataW.trod enc P w 0 (fun _ => true) true n t cs = some x → ∃ a, good a ∧ Rep w none1 (Old w) (c a) cs []

variable {P : Program}

theorem Opens.int {t : TypeId} (ht : P.underlying t = some (.int .i64)) : Opens P t (fun x : Int => [cI x]) (fun x => -9223372036854775808 ≤ x ∧ x ≤ 9223372036854775807) := by
  intro H enc w n cs x h
  obtain ⟨k, rfl, -, hw⟩ := DataW.trod_int ht h
  refine ⟨k, ?_, .v rfl .nil⟩
  have h1 : (-9223372036854775808 : Int) = IntKind.min .i64 := by decide
  have h2 : (9223372036854775807 : Int) = IntKind.max .i64 := by decide
  simp only [Lit.wf, Bool.and_eq_true, decide_eq_true_eq] at hw
  rw [h1, h2]; exact hw

theorem Opens.byte {t : TypeId} (ht : P.underlying t = some (.int .u8)) : Opens P t (fun x : UInt8 => [cY x]) (fun _ => True) := by
  intro H enc w n cs x h
  obtain ⟨k, rfl, -, hw⟩ := DataW.trod_int ht h
  simp only [Lit.wf, Bool.and_eq_true, decide_eq_true_eq] at hw
  have h1 : 0 ≤ k := by rw [show (0 : Int) = IntKind.min .u8 by decide]; exact hw.1
  have h2 : k ≤ 255 := by rw [show (255 : Int) = IntKind.max .u8 by decide]; exact hw.2
  refine ⟨UInt8.ofNat k.toNat, trivial, ?_⟩
  have h3 : ((UInt8.ofNat k.toNat).toNat : Int) = k := by
    have : (UInt8.ofNat k.toNat).toNat = k.toNat := by rw [UInt8.toNat_ofNat']; omega
    omega
  show Rep w none1 (Old w) [.v (.int .u8 ((UInt8.ofNat k.toNat).toNat : Int))] [.int .u8 k] []
  rw [h3]
  exact .v rfl .nil

theorem Opens.bool {t : TypeId} (ht : P.underlying t = some .bool) : Opens P t (fun x : Bool => [cB x]) (fun _ => True) := by
  intro H enc w n cs x h
  obtain ⟨k, rfl, -⟩ := DataW.trod_bool ht h
  exact ⟨k, trivial, .v rfl .nil⟩

theorem Opens.string {t : TypeId} (ht : P.underlying t = some .string) : Opens P t (fun x : ByteArray => [cS x]) (fun x => x.size ≤ 9223372036854775807) := by
  intro H enc w n cs x h
  cases n with
  | zero => simp [DataW.trod] at h
  | succ n =>
    unfold DataW.trod at h
    rw [ht] at h
    match cs, h with
    | [.string s], h =>
      simp only at h
      split at h
      · rename_i hs
        exact ⟨s, by simpa [maxLen] using hs, .v rfl .nil⟩
      · cases h

theorem row_of_cells {w : World} {g o : Nat} {cs : List Value} (hpos : 0 < cs.length) (h : ∀ j v, cs[j]? = some v → w.cell? ⟨g, o + j, none⟩ = some v) : Row w g o cs := by
  obtain ⟨v0, hv0⟩ : ∃ v, cs[0]? = some v := ⟨cs[0], List.getElem?_eq_getElem hpos⟩
  have h0 := h 0 v0 hv0
  unfold World.cell? at h0
  simp only at h0
  split at h0
  · rename_i cur e fz hg
    refine ⟨cur, e, fz, hg, ?_⟩
    apply List.ext_getElem?
    intro j
    by_cases hj : j < cs.length
    · have := h j cs[j] (List.getElem?_eq_getElem hj)
      unfold World.cell? at this
      rw [hg] at this
      simp at this
      rw [List.getElem?_take, if_pos hj, List.getElem?_drop, List.getElem?_eq_getElem hj]
      simpa using this
    · rw [List.getElem?_eq_none (by omega : cs.length ≤ j), List.getElem?_eq_none]
      simp; omega
  · cases h0

theorem Rep.snoc {w : World} {β : Nat → Option Nat} {S : Nat → Prop} {as bs : List AV} {vs us : List Value} (h : Rep w β S as vs []) (t : Rep w β S bs us []) : Rep w β S (as ++ bs) (vs ++ us) [] := by
  simpa using h.append t

theorem Opens.slice {t e : TypeId} {α : Type} {c : α → List AV} {good : α → Prop} {sz : Nat} (ht : P.underlying t = some (.slice e)) (hc : P.cellsOf e = sz) (hpos : 0 < sz) (hlen : ∀ a, (c a).length = sz) (he : Opens P e c good) :
    Opens P t (fun l : List α => [sl false sz (l.map c)]) (fun l => l.length ≤ 9223372036854775807 ∧ ∀ a ∈ l, good a) := by
  intro H enc w n cs x h
  rcases DataW.trod_slice ht h with ⟨rfl, -⟩ | ⟨a, len, cap, elems, rest, m, -, rfl, -, hb, hlc, hcm, hel, hget, -, -⟩
  · exact ⟨[], ⟨by simp, by simp⟩, .nils (by simp) .nil⟩
  · rw [hc] at hget
    have key : ∀ k, k ≤ len → ∃ l : List α, l.length = k ∧ (∀ a ∈ l, good a) ∧ ∃ cs : List Value, cs.length = k * sz ∧ (∀ j, j < k * sz → w.cell? (a.add j) = cs[j]?) ∧ Rep w none1 (Old w) (l.map c).flatten cs [] := by
      intro k
      induction k with
      | zero => intro _; exact ⟨[], rfl, by simp, [], by simp, by simp, .nil⟩
      | succ k ih =>
        intro hk
        obtain ⟨l, h1, h2, cs, h3, h4, h5⟩ := ih (by omega)
        have h6 := hget k (by omega)
        rw [List.getElem?_eq_getElem (by omega : k < elems.length)] at h6
        cases h7 : w.cells? 0 (a.add (k * sz)) sz with
        | none => rw [h7] at h6; cases h6
        | some ck =>
          rw [h7] at h6
          obtain ⟨b, h8, h9⟩ := he enc w m ck _ h6
          obtain ⟨-, h10, h11⟩ := World.cells?_some h7
          refine ⟨l ++ [b], by simp [h1], ?_, cs ++ ck, by rw [List.length_append, h3, h10, Nat.add_mul]; omega, ?_, ?_⟩
          · intro y hy
            rcases List.mem_append.1 hy with hy | hy
            · exact h2 y hy
            · simp at hy; subst hy; exact h8
          · intro j hj
            rw [Nat.add_mul, Nat.one_mul] at hj
            by_cases hjk : j < k * sz
            · rw [List.getElem?_append_left (by omega)]; exact h4 j hjk
            · rw [List.getElem?_append_right (by omega), h3]
              have := h11 (j - k * sz) (by omega)
              rw [Addr.add_add, show k * sz + (j - k * sz) = j by omega] at this
              exact this
          · rw [List.map_append, List.flatten_append]
            refine h5.snoc ?_
            simpa using h9
    obtain ⟨l, h1, h2, cs, h3, h4, h5⟩ := key len (Nat.le_refl _)
    have hll : l.length ≤ 9223372036854775807 := by rw [h1]; unfold maxLen at hcm; omega
    refine ⟨l, ⟨hll, h2⟩, ?_⟩
    by_cases h0 : len = 0
    · subst h0
      obtain rfl : l = [] := List.eq_nil_of_length_eq_zero h1
      exact .emp (by simp) hcm .nil
    · have hpos2 : 0 < len * sz := Nat.mul_pos (by omega) hpos
      obtain ⟨g, o, spot⟩ := a
      have hv0 := h4 0 hpos2
      rw [List.getElem?_eq_getElem (by omega)] at hv0
      have hspot : spot = none := by simpa [Addr.add] using World.cell?_spot hv0
      subst hspot
      have hrow : Row w g o cs := row_of_cells (by omega) fun j v hj => by
        have := h4 j (by rw [← h3]; exact (List.getElem?_eq_some_iff.1 hj).1)
        rw [Addr.add_lit, hj] at this
        exact this
      have hg : g < w.heap.size := by
        obtain ⟨cur, e', fz, hg, -⟩ := hrow
        exact (Array.getElem?_eq_some_iff.1 hg).1
      refine .shd (by simp) hg hrow (by simp [h1]) (fun el hel => ?_) hpos hlc hcm h5 .nil
      simp only [List.mem_map] at hel
      obtain ⟨y, -, rfl⟩ := hel
      exact hlen y

/-- Fields, one behind another. -/
def OpensF (P : Program) (ts : List TypeId) {α : Type} (c : α → List AV) (good : α → Prop) : Prop :=
  ∀ {H : Type} (enc : TypeId × Value → H) (w : World) (n : Nat) (cs : List Value) (xs : List (DataW H × List MemPlace)), cs.length = (ts.map P.cellsOf).sum → xs.length = ts.length →
    (∀ (i : Nat) (t : TypeId), ts[i]? = some t → DataW.trod enc P w 0 (fun _ => true) true n t ((cs.drop ((ts.take i).map P.cellsOf).sum).take (P.cellsOf t)) = xs[i]?) → ∃ a, good a ∧ Rep w none1 (Old w) (c a) cs []

theorem OpensF.nil : OpensF P [] (fun _ : Unit => []) (fun _ => True) := by
  intro H enc w n cs xs hl hx _
  obtain rfl : cs = [] := List.eq_nil_of_length_eq_zero (by simpa using hl)
  exact ⟨(), trivial, .nil⟩

theorem OpensF.cons {t : TypeId} {ts : List TypeId} {α β : Type} {c : α → List AV} {d : β → List AV} {g : α → Prop} {k : β → Prop} (h1 : Opens P t c g) (h2 : OpensF P ts d k) :
    OpensF P (t :: ts) (fun p : α × β => c p.1 ++ d p.2) (fun p => g p.1 ∧ k p.2) := by
  intro H enc w n cs xs hl hx hf
  match xs, hx with
  | x :: xs, hx =>
    have h3 := hf 0 t rfl
    simp only [List.take_zero, List.map_nil, List.sum_nil, List.drop_zero, List.getElem?_cons_zero] at h3
    obtain ⟨a, ha, hra⟩ := h1 enc w n _ _ h3
    simp only [List.map_cons, List.sum_cons] at hl
    obtain ⟨b, hb, hrb⟩ := h2 enc w n (cs.drop (P.cellsOf t)) xs (by simp; omega) (by simpa using hx) (by
      intro i u hu
      have := hf (i + 1) u (by simpa using hu)
      simp only [List.take_succ_cons, List.map_cons, List.sum_cons, List.getElem?_cons_succ] at this
      rw [← this, List.drop_drop])
    refine ⟨(a, b), ⟨ha, hb⟩, ?_⟩
    have := hra.snoc hrb
    rwa [List.take_append_drop] at this

theorem Opens.struct {T : TypeId → Prop} (K : Kids P T) {t : TypeId} (hT : T t) {fs : Array Field} {ts : List TypeId} (ht : P.underlying t = some (.struct fs)) (hts : fs.toList.map (·.type) = ts)
    {α β : Type} {c : α → List AV} {good : α → Prop} (h : OpensF P ts c good) (f : α → β) {d : β → List AV} (hd : ∀ a, d (f a) = c a) {k : β → Prop} (hk : ∀ a, good a → k (f a)) : Opens P t d k := by
  intro H enc w n cs x hx
  obtain ⟨xs, m, -, -, hl, hlen, hf⟩ := DataW.trod_struct ht hx
  obtain ⟨-, hsum, hoff⟩ := K.struct hT ht
  subst hts
  obtain ⟨a, h1, h2⟩ := h enc w m cs xs (by rw [hl, hsum, List.map_map]; rfl) (by simp [hlen]) (by
    intro i u hu
    rw [List.getElem?_map] at hu
    cases hfi : fs.toList[i]? with
    | none => rw [hfi] at hu; cases hu
    | some fd =>
      rw [hfi] at hu
      cases hu
      have h3 := hf i fd (by simpa using hfi)
      rw [hoff i fd hfi] at h3
      rw [← h3, ← List.map_take, List.map_map]
      rfl)
  exact ⟨f a, hk a h1, by rw [hd]; exact h2⟩

open Go.WideShapes Go.ChangeShapes Go.WideElems Go.RowKit

/-- The arguments of a call from outside. -/
def OpensA (P : Program) (ts : List TypeId) {α : Type} (ag : α → List Arg) (good : α → Prop) : Prop :=
  ∀ {H : Type} (enc : TypeId × Value → H) (w : World) (base : Nat) (vs : List Value) (ds : List (DataW H)) (ps : List MemPlace),
    (∀ (j : Nat) t v, ts[j]? = some t → vs[j]? = some v → Value.okWide P w .any base t v) →
    DataW.TrodAll enc P w 0 (fun _ => true) true ts vs ds ps → ∃ a, good a ∧ Reps w (Old w) (ag a) vs []

theorem OpensA.nil : OpensA P [] (fun _ : Unit => []) (fun _ => True) := by
  intro H enc w base vs ds ps _ h
  obtain ⟨rfl, rfl, rfl⟩ := trodAll_nil h
  exact ⟨(), trivial, .nil⟩

def notAgg (P : Program) (t : TypeId) : Bool := match P.underlying t with
  | some (.struct _) | some (.array _ _) => false
  | some (.bool) | some (.int _) | some (.string) | some (.slice _) => true
  | _ => false

theorem ok_one_cell {w : World} {b : Nat} {t : TypeId} {v y : Value} (ht : notAgg P t = true) (h : Value.okWide P w .any b t v) (hc : v.cells.toList = [y]) : v = y := by
  cases v with
  | agg cs =>
    exfalso
    unfold notAgg at ht
    unfold Value.okWide at h
    split at ht
    · cases ht
    · cases ht
    all_goals first | (rename_i hu; rw [hu] at h; simp [Cell.okWide, hu, Cell.ok] at h; done) | cases ht
  | _ => simpa [Value.cells] using hc

theorem OpensA.one {t : TypeId} {ts : List TypeId} {α β : Type} {c : α → AV} {g : α → Prop} {ag : β → List Arg} {k : β → Prop} (ht : notAgg P t = true) (h1 : Opens P t (fun a => [c a]) g) (h2 : OpensA P ts ag k) :
    OpensA P (t :: ts) (fun p : α × β => O (c p.1) :: ag p.2) (fun p => g p.1 ∧ k p.2) := by
  intro H enc w base vs ds ps hok h
  obtain ⟨v, vs1, d, ds1, p, q, rfl, rfl, rfl, ⟨n, h3⟩, h4⟩ := trodAll_cons h
  obtain ⟨a, ha, hr⟩ := h1 enc w n _ _ h3
  obtain ⟨b, hb, hrs⟩ := h2 enc w base vs1 ds1 q (fun j t v h5 h6 => hok (j + 1) t v (by simpa using h5) (by simpa using h6)) h4
  refine ⟨(a, b), ⟨ha, hb⟩, ?_⟩
  have hlen := hr.length
  match hcs : v.cells.toList, hr, hlen with
  | [y], hr, _ =>
    have := ok_one_cell ht (hok 0 t v rfl rfl) hcs
    subst this
    have := Reps.cons (s := .one) hr hrs
    exact this

theorem OpensA.agg {t : TypeId} {ts : List TypeId} {fs : Array Field} {α β : Type} {c : α → List AV} {g : α → Prop} {ag : β → List Arg} {k : β → Prop} (ht : P.underlying t = some (.struct fs)) (h1 : Opens P t c g) (h2 : OpensA P ts ag k) :
    OpensA P (t :: ts) (fun p : α × β => A (c p.1) :: ag p.2) (fun p => g p.1 ∧ k p.2) := by
  intro H enc w base vs ds ps hok h
  obtain ⟨v, vs1, d, ds1, p, q, rfl, rfl, rfl, ⟨n, h3⟩, h4⟩ := trodAll_cons h
  obtain ⟨a, ha, hr⟩ := h1 enc w n _ _ h3
  obtain ⟨b, hb, hrs⟩ := h2 enc w base vs1 ds1 q (fun j t v h5 h6 => hok (j + 1) t v (by simpa using h5) (by simpa using h6)) h4
  refine ⟨(a, b), ⟨ha, hb⟩, ?_⟩
  have hk := hok 0 t v rfl rfl
  unfold Value.okWide at hk
  rw [ht] at hk
  obtain ⟨cs, rfl, -, -⟩ := hk
  have := Reps.cons (s := .agg) hr hrs
  simpa [shVal, Value.cells] using this

theorem OpensA.to {ts : List TypeId} {α β : Type} {ag : α → List Arg} {good : α → Prop} (h : OpensA P ts ag good) {ag' : β → List Arg} {good' : β → Prop} (f : α → β) (h1 : ∀ a, ag' (f a) = ag a) (h2 : ∀ a, good a → good' (f a)) : OpensA P ts ag' good' := by
  intro H enc w base vs ds ps hok ht
  obtain ⟨a, k1, k2⟩ := h enc w base vs ds ps hok ht
  exact ⟨f a, h2 a k1, by rw [h1]; exact k2⟩

theorem same_of_keeps {w w' : World} (hk : Keeps w w' []) {p : MemPlace} (hp : p.block < w.heap.size) : w.sameAt w' p := by
  have hb := hk.block p.block hp (by simp)
  cases p with
  | cell b off =>
    show w'.cell? ⟨b, off, none⟩ = w.cell? ⟨b, off, none⟩
    unfold World.cell?
    rw [show w'.heap[b]? = w.heap[b]? from hb]
  | map b => exact hb

theorem trodAll_kept {H : Type} {enc : TypeId × Value → H} {w w' : World} (hk : Keeps w w' []) : ∀ {ts : List TypeId} {vs : List Value} {ds : List (DataW H)} {ps : List MemPlace}, DataW.TrodAll enc P w 0 (fun _ => true) true ts vs ds ps → DataW.TrodAll enc P w' 0 (fun _ => true) true ts vs ds ps
  | [], [], [], _, h => h
  | _ :: _, _ :: _, _ :: _, _, ⟨p, q, ⟨n, hn⟩, h2, e⟩ => by
    refine ⟨p, q, ⟨n, DataW.trod_carry n _ _ _ hn fun x hx => same_of_keeps hk (DataW.trod_lt n _ _ _ hn x hx)⟩, trodAll_kept hk h2, e⟩

theorem kept_of_keeps {w w' : World} (hk : Keeps w w' []) (may : MemPlace → Prop) : w.keptBut w' may := by
  refine ⟨hk.os, hk.output, fun i hi => ?_⟩
  rw [hk.block i hi (by simp)]
  cases w.heap[i]? with
  | none => rfl
  | some o => cases o with
    | cells c t fr => exact ⟨rfl, rfl, rfl, fun _ _ => rfl⟩
    | map es clock => exact .inr ⟨rfl, rfl⟩
    | _ => rfl

/-- FROM A CONTRACT TO A ROW's CONTRACT: a law that answers true and leaves its arguments as they were. -/
theorem law_callsG {f : FuncId} {fn : Func} {s : ChangeSpec} {ts : List TypeId} {tb : TypeId} (K : Kids P (· < P.types.size)) (full : ∀ t e, t < P.types.size → P.underlying t = some (.slice e) → 0 < P.cellsOf e)
    (hts : fn.params.toList = ts) (htl : ∀ t ∈ ts, t < P.types.size) (hres : fn.resultTypes = #[tb]) (htb : P.underlying tb = some .bool) (hvars : s.vars = [])
    (hs : ∀ (H : Type) (ds : List (DataW H)), ds.length = ts.length → (s.fn H (ds ++ [])).results = [.lit (.bool true)] ∧ (s.fn H (ds ++ [])).args = ds ∧ (s.fn H (ds ++ [])).vars = [])
    {α : Type} {ag : α → List Arg} {good : α → Prop} (ho : OpensA P ts ag good) {outs : α → List Arg} (hfok : ∀ a, good a → FOk P f (ag a) (outs a) (B true)) {apart fresh handsOn : Bool} {H : Type} (enc : TypeId × Value → H)
    (W : World) (base : Nat) (args : Array Value) (ds gs : List (DataW H)) (before : List MemPlace)
    (hok : ∀ (j : Nat) t v, fn.params[j]? = some t → args[j]? = some v → Value.okWide P W .any base t v)
    (hW : DataW.Whole enc P fn.params.toList s.vars apart W args.toList ds gs before) (hG : Gl P W (Old W)) :
    Calls P f args W fun e W' => ∃ v, e = .returned v ∧ s.post enc P fn apart fresh handsOn false W args v W' := by
  have hW' := hW
  obtain ⟨p, q, hA, hV, rfl, hfz, hnd⟩ := hW
  rw [hts] at hA
  rw [hvars] at hV
  obtain ⟨rfl, rfl⟩ := trodVars_none hV
  have hdl : ds.length = ts.length := by
    have : ∀ (ts : List TypeId) (vs : List Value) (ds : List (DataW H)) (ps : List MemPlace), DataW.TrodAll enc P W 0 (fun _ => true) true ts vs ds ps → ds.length = ts.length := by
      intro ts
      induction ts with
      | nil => intro vs ds ps h; obtain ⟨rfl, rfl, rfl⟩ := trodAll_nil h; rfl
      | cons t ts ih =>
        intro vs ds ps h
        obtain ⟨v, vs1, d, ds1, p, q, rfl, rfl, rfl, -, h4⟩ := trodAll_cons h
        simp [ih _ _ _ h4]
    exact this _ _ _ _ hA
  obtain ⟨h1, h2, h3⟩ := hs H ds hdl
  obtain ⟨a, ha, hr⟩ := ho enc W base args.toList ds p (fun j t v h5 h6 => hok j t v (by rw [← Array.getElem?_toList, hts]; exact h5) (by simpa using h6)) hA
  have hcalls := (hfok a ha).2 W (Old W) args.toList [] (fun b hb => ⟨hb, by simp⟩) (by simp) (by simp) hr hG
  rw [Array.toArray_toList] at hcalls
  refine hcalls.mono fun e W' hp => ?_
  obtain ⟨rvs, fpr, fp', rfl, -, hk, -, -, hrep, -⟩ := hp
  have hv : shVal Shape.one rvs = .bool true := by
    cases hrep with
    | v hsc t => cases t; rfl
  refine ⟨_, rfl, ds, [], p ++ [], [], p, [], hW', ?_, ?_, ?_, kept_of_keeps hk _, fun h => by cases h⟩
  · rw [h1, hres]
    show DataW.TrodAll enc P W' _ _ _ [tb] ((shVal Shape.one rvs).resultList 1) _ _
    rw [hv]
    exact trodAll_mk1 (shut_bool htb true)
  · rw [h2, hts]
    refine DataW.TrodAll.respare K full htl (trodAll_kept hk hA) fun x hx => ?_
    have := hA.lt x hx
    simpa using this
  · rw [hvars, h3]
    exact rfl

/-- A program without the table. -/
theorem law_calls {f : FuncId} {fn : Func} {s : ChangeSpec} {ts : List TypeId} {tb : TypeId} (K : Kids P (· < P.types.size)) (full : ∀ t e, t < P.types.size → P.underlying t = some (.slice e) → 0 < P.cellsOf e)
    (hts : fn.params.toList = ts) (htl : ∀ t ∈ ts, t < P.types.size) (hres : fn.resultTypes = #[tb]) (htb : P.underlying tb = some .bool) (hvars : s.vars = [])
    (hs : ∀ (H : Type) (ds : List (DataW H)), ds.length = ts.length → (s.fn H (ds ++ [])).results = [.lit (.bool true)] ∧ (s.fn H (ds ++ [])).args = ds ∧ (s.fn H (ds ++ [])).vars = [])
    {α : Type} {ag : α → List Arg} {good : α → Prop} (ho : OpensA P ts ag good) {outs : α → List Arg} (hfok : ∀ a, good a → FOk P f (ag a) (outs a) (B true)) {apart fresh handsOn : Bool} {H : Type} (enc : TypeId × Value → H)
    (W : World) (base : Nat) (args : Array Value) (ds gs : List (DataW H)) (before : List MemPlace)
    (hok : ∀ (j : Nat) t v, fn.params[j]? = some t → args[j]? = some v → Value.okWide P W .any base t v)
    (hW : DataW.Whole enc P fn.params.toList s.vars apart W args.toList ds gs before) (hno : tabOf P = none := by kernel_rfl) :
    Calls P f args W fun e W' => ∃ v, e = .returned v ∧ s.post enc P fn apart fresh handsOn false W args v W' :=
  law_callsG K full hts htl hres htb hvars hs ho hfok enc W base args ds gs before hok hW (fun g cs h => by rw [hno] at h; cases h)

end Go.Vs


namespace Go.Vs
/-! The waits of a region, each named once: what the kernel reckons with -/
def addN : List Nat → List Nat → List Nat
  | [], m => m
  | n :: l, m => bif memNat n m then addN l m else addN l (n :: m)
def closeUpD (acc : List (List Nat)) : List Nat → List Nat
  | [] => []
  | e :: l => addN (e :: ((acc.reverse[e]?).getD [])) (closeUpD acc l)
def waitsD : List (List Nat) → List Oper → List (List Nat)
  | acc, [] => acc.reverse
  | acc, o :: l => waitsD (closeUpD acc (edgesOf o) :: acc) l
def orderOkD (ops : List Oper) (lgs : List Log) : Bool := orderFrom [] 0 ops (waitsD [] ops) lgs
theorem memNatW {n : Nat} : ∀ {l : List Nat}, memNat n l = true ↔ n ∈ l
  | [] => by simp [memNat]
  | m :: l => by simp [memNat, memNatW (l := l)]
theorem addN_mem {n : Nat} : ∀ {l m : List Nat}, n ∈ addN l m ↔ n ∈ l ∨ n ∈ m
  | [], m => by simp [addN]
  | k :: l, m => by
    rw [addN]
    cases h : memNat k m with
    | true =>
      have := memNatW.1 h
      simp only [cond_true, addN_mem, List.mem_cons]
      constructor
      · rintro (h | h) <;> simp [h]
      · rintro ((h | h) | h)
        · subst h; exact .inr this
        · exact .inl h
        · exact .inr h
    | false =>
      simp only [cond_false, addN_mem, List.mem_cons]
      constructor
      · rintro (h | h | h) <;> simp [h]
      · rintro ((h | h) | h) <;> simp [h]
def Same (a b : List (List Nat)) : Prop := a.length = b.length ∧ ∀ (i n : Nat), n ∈ (a[i]?).getD [] ↔ n ∈ (b[i]?).getD []
theorem closeUpD_mem {a b : List (List Nat)} (h : Same a.reverse b.reverse) : ∀ (es : List Nat) (n : Nat), n ∈ closeUpD a es ↔ n ∈ closeUp b es
  | [], n => by simp [closeUpD, closeUp]
  | e :: l, n => by
    rw [closeUpD, closeUp, addN_mem, closeUpD_mem h l n]
    have := h.2 e n
    simp [this, or_assoc]
theorem Same.snoc {a b : List (List Nat)} {x y : List Nat} (h : Same a b) (hx : ∀ n, n ∈ x ↔ n ∈ y) : Same (a ++ [x]) (b ++ [y]) := by
  refine ⟨by simp [h.1], fun i n => ?_⟩
  by_cases hi : i < a.length
  · rw [List.getElem?_append_left hi, List.getElem?_append_left (h.1 ▸ hi)]; exact h.2 i n
  · have hb : ¬ i < b.length := h.1 ▸ hi
    rw [List.getElem?_append_right (by omega), List.getElem?_append_right (by omega), h.1]
    cases i - b.length with
    | zero => simpa using hx n
    | succ k => simp
theorem waitsD_same : ∀ (ops : List Oper) (a b : List (List Nat)), Same a.reverse b.reverse → Same (waitsD a ops) (waits b ops)
  | [], a, b, h => h
  | o :: l, a, b, h => by
    rw [waitsD, waits]
    refine waitsD_same l _ _ ?_
    rw [List.reverse_cons, List.reverse_cons]
    exact h.snoc (closeUpD_mem h (edgesOf o))
theorem against_same {x y : List Nat} (h : ∀ n, n ∈ x ↔ n ∈ y) (lg : Log) : ∀ (i : Nat) (l : List Log), against x lg i l = against y lg i l
  | _, [] => rfl
  | i, m :: l => by
    have e : memNat i x = memNat i y := by rw [Bool.eq_iff_iff, memNatW, memNatW]; exact h i
    rw [against, against, e, against_same h lg (i + 1) l]
theorem orderFrom_same : ∀ (ops : List Oper) (done : List Log) (n : Nat) (a b : List (List Nat)) (lgs : List Log), Same a b → orderFrom done n ops a lgs = orderFrom done n ops b lgs
  | [], _, _, _, _, _, _ => by simp [orderFrom]
  | o :: ops, done, n, [], [], lgs, _ => rfl
  | o :: ops, done, n, [], y :: b, lgs, h => by have := h.1; simp at this
  | o :: ops, done, n, x :: a, [], lgs, h => by have := h.1; simp at this
  | o :: ops, done, n, x :: a, y :: b, [], _ => rfl
  | o :: ops, done, n, x :: a, y :: b, lg :: lgs, h => by
    have h0 : ∀ m, m ∈ x ↔ m ∈ y := fun m => by simpa using h.2 0 m
    have h1 : Same a b := ⟨by simpa using h.1, fun i m => by simpa using h.2 (i + 1) m⟩
    rw [orderFrom, orderFrom, against_same h0, orderFrom_same ops _ _ a b lgs h1]
theorem orderFast {ops : List Oper} {lgs : List Log} (h : orderOkD ops lgs = true) : orderOk ops lgs = true := by
  unfold orderOk
  rw [← orderFrom_same ops [] 0 _ _ lgs (waitsD_same ops [] [] ⟨rfl, fun _ _ => Iff.rfl⟩)]
  exact h
end Go.Vs
