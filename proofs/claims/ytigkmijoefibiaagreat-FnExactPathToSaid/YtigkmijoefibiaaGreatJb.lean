/- Contracts of functions of the program: no statement of the seat is proved here. Each under the conditions that stand in it. -/
import Derived.Test.YtigkmijoefibiaaGreatFa
set_option linter.all false
namespace Go.Proofs.YtigkmijoefibiaaGreat
open Go.Vs Go.Proofs
/-! A lent slice whose elements hold memory of their own, where the elements' memory need not come back -/
theorem FOk.half {P : Program} {f : FuncId} {sz : Nat} {els : List (List AV)} {rest outs : List Arg} {res : Arg} (h : FOk P f ((.one, [sl true sz (shcLL els)]) :: rest) outs res) : FOk P f ((.one, [sl true sz els]) :: rest) outs res := by
  refine ⟨h.1, fun w S vals fp hS hnd hfp hreps hgl => ?_⟩
  generalize haa : ((Shape.one, [sl true sz els]) :: rest) = aa at hreps
  cases hreps with
  | nil => cases haa
  | @cons s1 as1 vs1 f1 args1 vals1 fps1 h1 t1 =>
    obtain ⟨e1, e2⟩ := List.cons.inj haa
    cases e1
    cases e2
    cases h1 with
    | nils hf t =>
      exact h.2 w S _ _ hS hnd hfp (Reps.cons (Rep.nils hf t) t1) hgl
    | @owd _ _ _ _ g n cap _ cur T _ _ fi fq hnf hgc hn hsz hpos hcap hmax hcur hinr t =>
      cases t
      simp only [List.append_nil] at *
      have hfiS : ∀ b ∈ fi, b ∉ g :: fps1 := by
        intro b hb hc
        rw [List.nodup_append] at hnd
        rcases List.mem_cons.1 hc with rfl | hc
        · exact (List.nodup_cons.1 hnd.1).1 hb
        · exact hnd.2.2 b (by simp [hb]) b hc rfl
      have hin2 := hinr.shc (S' := fun b => S b ∨ b ∈ fi) (fun b hb => .inl hb) (fun b hb => .inr hb)
      rw [← shcLL_flatten] at hin2
      have hsz2 : ∀ el ∈ shcLL els, el.length = sz := by
        intro el he
        have : ∀ (L : List (List AV)), (∀ el ∈ L, el.length = sz) → ∀ el ∈ shcLL L, el.length = sz := by
          intro L
          induction L with
          | nil => intro _ el he; simp [shcLL] at he
          | cons x L ih =>
            intro hL el he
            rw [shcLL] at he
            rcases List.mem_cons.1 he with rfl | he
            · have : ∀ m : List AV, (shcL m).length = m.length := by
                intro m
                induction m with
                | nil => rfl
                | cons y m ih => simp [shcL, ih]
              rw [this]; exact hL x (by simp)
            · exact ih (fun el he => hL el (by simp [he])) el he
        exact this els hsz el he
      have hlen2 : (shcLL els).length = els.length := by
        have : ∀ (L : List (List AV)), (shcLL L).length = L.length := by
          intro L
          induction L with
          | nil => rfl
          | cons x L ih => simp [shcLL, ih]
        exact this els
      have hrep := Rep.owd (β := fun _ => none) (S := fun b => S b ∨ b ∈ fi) (nf := NF.unk) hnf hgc (hlen2.trans hn) hsz2 hpos hcap hmax hcur hin2 Rep.nil
      simp only [List.append_nil] at hrep
      have hc := h.2 w (fun b => S b ∨ b ∈ fi) (shVal .one [.slice (some ⟨g, 0, none⟩) n cap] :: vals1) ([g] ++ fps1) ?_ ?_ ?_ (Reps.cons hrep (t1.mono fun b hb => .inl hb)) ?_
      · refine hc.mono ?_
        rintro e w' ⟨rvs, fpr, fp', rfl, hfit, hk, hn1, hn2, hr1, hr2⟩
        refine ⟨rvs, fpr, fp', rfl, hfit, ⟨hk.os, hk.tape, hk.output, hk.size, fun b hb hb2 => hk.block b hb (fun hb3 => hb2 ?_)⟩, hn1, fun b hb => ⟨?_, (hn2 b hb).2⟩, ?_, ?_⟩
        · simp at hb3 ⊢
          rcases hb3 with rfl | hb3
          · exact .inl rfl
          · exact .inr (.inr hb3)
        · rcases (hn2 b hb).1 with h | h
          · left
            simp at h ⊢
            rcases h with rfl | h
            · exact .inl rfl
            · exact .inr (.inr h)
          · exact .inr h
        · refine hr1.mono (fun b hb => ⟨⟨?_, hb.2⟩, rfl⟩) (fun _ _ => rfl) (fun _ _ h => h)
          rcases hb.1 with (h | h) | h | h
          · exact .inl h
          · exact .inr (.inl (by simp [h]))
          · exact .inr (.inl (by simp at h ⊢; rcases h with h | h <;> simp [h]))
          · exact .inr (.inr h)
        · refine hr2.mono (fun b hb => ⟨?_, hb.2⟩)
          rcases hb.1 with (h | h) | h | h
          · exact .inl h
          · exact .inr (.inl (by simp [h]))
          · exact .inr (.inl (by simp at h ⊢; rcases h with h | h <;> simp [h]))
          · exact .inr (.inr h)
      · rintro b (hb | hb)
        · refine ⟨(hS b hb).1, fun hc => (hS b hb).2 ?_⟩
          simp at hc ⊢
          rcases hc with h | h <;> simp [h]
        · refine ⟨hfp b (by simp [hb]), ?_⟩
          simpa using hfiS b hb
      · rw [List.nodup_append] at hnd ⊢
        refine ⟨by simp, hnd.2.1, ?_⟩
        intro a ha b hb
        exact hnd.2.2 a (by simp at ha; simp [ha]) b hb
      · intro b hb
        refine hfp b ?_
        simp at hb ⊢
        rcases hb with h | h <;> simp [h]
      · intro g' cs hg
        exact ⟨.inl (hgl g' cs hg).1, (hgl g' cs hg).2⟩
end Go.Proofs.YtigkmijoefibiaaGreat
