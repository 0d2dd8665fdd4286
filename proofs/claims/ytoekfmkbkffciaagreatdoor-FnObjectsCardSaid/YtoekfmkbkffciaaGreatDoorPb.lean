/- Contracts of functions of the program: no statement of the seat is proved here. Each under the conditions that stand in it. -/
import Derived.Test.YtoekfmkbkffciaaGreatDoorPa
set_option linter.all false
namespace Go.Proofs.YtoekfmkbkffciaaGreatDoor
open Go.Vs Go.Proofs
def sPort (x : Data) : List Int := b2i (apNm [] x.name) ++ b2i x.content ++ b2i (apNm [] x.keyName) ++ [x.fresh]
theorem sPort_len {x : Data} (h : x.content.length ≤ 1048576) : (sPort x).length ≤ 1048800 := by
  have h1 := apNm_len x.name
  have h2 := apNm_len x.keyName
  simp only [sPort, List.length_append, b2i_len, List.length_cons, List.length_nil]; omega
theorem is110 : FI 110 Tryz.f110 := ⟨⟨Tryz.f110, Tryz.func110, rfl, rfl, rfl, rfl⟩, rfl⟩
set_option maxRecDepth 20000 in
set_option maxHeartbeats 16000000 in
theorem s_SignedPortion (x : Data) (hz : x.sz) : FO 110 [A (Data.c false x)] [A (Data.c false x)] (Is true (sPort x)) := by
  refine fok envOk mixed is110 ⟨rfl, rfl, ?_⟩
  have h1 := apNm_len x.name
  have h2 := apNm_len x.keyName
  have h3 := hz.2.1
  (repeat' ((conv => whnf); first | refine stp ?_ | refine Cl.mk (s_AppendName x.name hz.1) ?_ | refine Cl.mk (s_AppendName x.keyName hz.2.2) ?_ | refine Cl.mk (s_BytesToInts (apNm [] x.name) (by omega)) ?_ | refine Cl.mk (s_BytesToInts (apNm [] x.keyName) (by omega)) ?_ | refine Cl.mk (s_BytesToInts x.content h3) ?_ | refine Rq.mk (by simp [b2i_len]; omega) ?_ | refine Cl.pre (by simp only [shcLL_ints, shcLL_byts, shcLL_strs, Data.shcs, Fetc.shcs, Gran.shcs, Keyy.shcs, Mani.shcs, Name.shcs, Read.shcs, Rout.shcs, Segm.shcs, TEnt.shcs]; rfl) ?_))
  refine Vs.Fin.mk (WkR.of (.sl1 ?_ .nil)) (.refl _)
  simp [sPort]
theorem is85 : FI 85 Tryz.f85 := ⟨⟨Tryz.f85, Tryz.func85, rfl, rfl, rfl, rfl⟩, rfl⟩
set_option maxRecDepth 20000 in
set_option maxHeartbeats 16000000 in
theorem i_SignedPortion (x : Data) (hz : x.sz) : FO 85 [A (Data.c false x)] [A (Data.c false x)] (Is true (sPort x)) := by
  refine fok envOk mixed is85 ⟨rfl, rfl, ?_⟩
  have h1 := apNm_len x.name
  have h2 := apNm_len x.keyName
  have h3 := hz.2.1
  have hA := (i_AppendName x.name hz.1).wk (args' := [O (.sl false .isnil 0 []), A (Name.c false x.name)]) (.cons (.nils .nil) (.refl _)) (.refl _) (WkR.refl _)
  have hB := (i_AppendName x.keyName hz.2.2).wk (args' := [O (.sl false .isnil 0 []), A (Name.c false x.keyName)]) (.cons (.nils .nil) (.refl _)) (.refl _) (WkR.refl _)
  (repeat' ((conv => whnf); first | refine stp ?_ | refine Cl.mk (hA) ?_ | refine Cl.mk (hB) ?_ | refine Cl.mk (i_BytesToInts (apNm [] x.name) (by omega)) ?_ | refine Cl.mk (i_BytesToInts (apNm [] x.keyName) (by omega)) ?_ | refine Cl.mk (i_BytesToInts x.content h3) ?_ | refine Cl.pre (by simp only [shcLL_ints, shcLL_byts, shcLL_strs, Data.shcs, Fetc.shcs, Gran.shcs, Keyy.shcs, Mani.shcs, Name.shcs, Read.shcs, Rout.shcs, Segm.shcs, TEnt.shcs]; rfl) ?_))
  have e : [b2i (apNm [] x.name), b2i x.content, b2i (apNm [] x.keyName)].flatten = b2i (apNm [] x.name) ++ b2i x.content ++ b2i (apNm [] x.keyName) := by simp
  refine Cl.eq ((Concat_int [b2i (apNm [] x.name), b2i x.content, b2i (apNm [] x.keyName)] (by simp) (by rw [e]; simp only [List.length_append, b2i_len]; omega)).wk (args' := [(.one, [AV.sl false NF.unk 1 [[AV.sl false NF.unk 1 (ints (b2i (apNm [] x.name)))], [AV.sl false NF.unk 1 (ints (b2i x.content))], [AV.sl false NF.unk 1 (ints (b2i (apNm [] x.keyName)))]]])]) (.cons (.refl _) .nil) (.refl _) (WkR.refl _)) (by simp only [shcLL, shcL, Vs.shc, shcLL_ints]) ?_
  rw [e]
  refine Rq.mk (by simp [dOwnLL, dOwnL, dOwn]) ?_
  (repeat' ((conv => whnf); first | refine stp ?_ | refine Rq.mk (by simp [b2i_len]; omega) ?_ | refine Cl.pre (by simp only [shcLL_ints, shcLL_byts, shcLL_strs, Data.shcs, Fetc.shcs, Gran.shcs, Keyy.shcs, Mani.shcs, Name.shcs, Read.shcs, Rout.shcs, Segm.shcs, TEnt.shcs]; rfl) ?_))
  refine Vs.Fin.mk (WkR.of (.sl1 ?_ .nil)) (.refl _)
  simp [sPort]
theorem is108 : FI 108 Tryz.f108 := ⟨⟨Tryz.f108, Tryz.func108, rfl, rfl, rfl, rfl⟩, rfl⟩
set_option maxRecDepth 20000 in
set_option maxHeartbeats 16000000 in
theorem s_l8Copy (x : Data) (hz : x.sz) : FO 108 [A (Data.c false x)] [A (Data.c false x)] (A (Data.c true x)) := by
  refine fok envOk mixed is108 ⟨rfl, rfl, ?_⟩
  have h1 := hz.1
  have h2 := hz.2.1
  have h3 := hz.2.2
  (repeat' ((conv => whnf); first | refine stp ?_ | refine Cl.mk (s_l4Copy x.name (by omega)) ?_ | refine Cl.mk (s_l4Copy x.keyName (by omega)) ?_ | refine Rq.mk (by simp; omega) ?_ | refine Cl.pre (by simp only [shcLL_ints, shcLL_byts, shcLL_strs, Data.shcs, Fetc.shcs, Gran.shcs, Keyy.shcs, Mani.shcs, Name.shcs, Read.shcs, Rout.shcs, Segm.shcs, TEnt.shcs]; rfl) ?_))
  refine Vs.Fin.mk (WkR.of (.keep (.sl1 ?_ (.refl _)))) (.refl _)
  simp
theorem is83 : FI 83 Tryz.f83 := ⟨⟨Tryz.f83, Tryz.func83, rfl, rfl, rfl, rfl⟩, rfl⟩
set_option maxRecDepth 20000 in
set_option maxHeartbeats 16000000 in
theorem i_copyData (x : Data) (hz : x.sz) : FO 83 [A (Data.c false x)] [A (Data.c false x)] (A (Data.c true x)) := by
  refine fok envOk mixed is83 ⟨rfl, rfl, ?_⟩
  have h1 := strs_len hz.1
  have h2 := hz.2.1
  have h3 := strs_len hz.2.2
  (repeat' ((conv => whnf); first | refine stp ?_ | refine Cl.mk (i_copyName x.name (by omega)) ?_ | refine Cl.mk (i_copyName x.keyName (by omega)) ?_ | refine Cl.mk (Clone_byte x.content h2) ?_ | refine Cl.pre (by simp only [shcLL_ints, shcLL_byts, shcLL_strs, Data.shcs, Fetc.shcs, Gran.shcs, Keyy.shcs, Mani.shcs, Name.shcs, Read.shcs, Rout.shcs, Segm.shcs, TEnt.shcs]; rfl) ?_))
  exact Vs.Fin.mk (WkR.refl _) (.refl _)
def sgn (k : Int) (x : Data) : Data := ⟨x.name, x.content, x.keyName, x.fresh, mac k (sPort x)⟩
theorem is77 : FI 77 Tryz.f77 := ⟨⟨Tryz.f77, Tryz.func77, rfl, rfl, rfl, rfl⟩, rfl⟩
set_option maxRecDepth 20000 in
set_option maxHeartbeats 16000000 in
theorem s_SignData (k : Int) (x : Data) (hz : x.sz) : FO 77 [I k, A (Data.c false x)] [I k, A (Data.c false x)] (A (Data.c true (sgn k x))) := by
  refine fok envOk mixed is77 ⟨rfl, rfl, ?_⟩
  have h := sPort_len hz.2.1
  (repeat' ((conv => whnf); first | refine stp ?_ | refine Cl.mk (s_l8Copy x hz) ?_ | refine Cl.mk (s_SignedPortion x hz) ?_ | refine Cl.mk (s_ComputeMAC k (sPort x) (by omega)) ?_ | refine Cl.pre (by simp only [shcLL_ints, shcLL_byts, shcLL_strs, Data.shcs, Fetc.shcs, Gran.shcs, Keyy.shcs, Mani.shcs, Name.shcs, Read.shcs, Rout.shcs, Segm.shcs, TEnt.shcs]; rfl) ?_))
  exact Vs.Fin.mk (WkR.refl _) (.refl _)
theorem is55 : FI 55 Tryz.f55 := ⟨⟨Tryz.f55, Tryz.func55, rfl, rfl, rfl, rfl⟩, rfl⟩
set_option maxRecDepth 20000 in
set_option maxHeartbeats 16000000 in
theorem i_SignData (k : Int) (x : Data) (hz : x.sz) : FO 55 [I k, A (Data.c false x)] [I k, A (Data.c false x)] (A (Data.c true (sgn k x))) := by
  refine fok envOk mixed is55 ⟨rfl, rfl, ?_⟩
  have h := sPort_len hz.2.1
  (repeat' ((conv => whnf); first | refine stp ?_ | refine Cl.mk (i_copyData x hz) ?_ | refine Cl.mk (i_SignedPortion x hz) ?_ | refine Cl.mk (i_ComputeMAC k (sPort x) (by omega)) ?_ | refine Cl.pre (by simp only [shcLL_ints, shcLL_byts, shcLL_strs, Data.shcs, Fetc.shcs, Gran.shcs, Keyy.shcs, Mani.shcs, Name.shcs, Read.shcs, Rout.shcs, Segm.shcs, TEnt.shcs]; rfl) ?_))
  exact Vs.Fin.mk (WkR.refl _) (.refl _)
def dZero : Data := ⟨⟨[]⟩, [], ⟨[]⟩, 0, 0⟩
def swk (l : List Keyy) (key n : Name) (b : List UInt8) (till : Int) : Data := sgn (secOf l key) ⟨n, b, key, till, 0⟩
def swkO (l : List Keyy) (key n : Name) (b : List UInt8) (till : Int) : Bool := !decide (secOf l key = 0) && vData (swk l key n b till)
abbrev DB (d : Data) (b : Bool) : Arg := (.tup [(true, 5), (false, 1)], Data.c true d ++ [cB b])
def swkR (l : List Keyy) (key n : Name) (b : List UInt8) (till : Int) : Data := if swkO l key n b till then swk l key n b till else dZero
theorem swk_sz {l : List Keyy} {key n : Name} {b : List UInt8} {till : Int} (h : strsSize key.parts ≤ 1048576) (hn : strsSize n.parts ≤ 1048576) (hb : b.length ≤ 1048576) : (swk l key n b till).sz := ⟨hn, hb, h⟩
theorem db_nil : WkR (.tup [(true, 5), (false, 1)], [AV.sl true .isnil 0 [], AV.sl true .isnil 0 [], AV.sl true .isnil 0 [], cI 0, cI 0, cB false]) (DB dZero false) := WkR.of (.nils (.nils (.nils (.refl _))))
theorem is50 : FI 50 Tryz.f50 := ⟨⟨Tryz.f50, Tryz.func50, rfl, rfl, rfl, rfl⟩, rfl⟩
set_option maxRecDepth 20000 in
set_option maxHeartbeats 16000000 in
theorem s_SignWithKey (l : List Keyy) (key n : Name) (b : List UInt8) (till : Int) (hl : l.length + sumN Keyy.size l ≤ 1048576) (hk : strsSize key.parts ≤ 1048576) (hn : strsSize n.parts ≤ 1048576) (hb : b.length ≤ 1048576) : FO 50 [O (sl false 2 (l.map (Keyy.c false))), A (Name.c false key), A (Name.c false n), Ys false b, I till] [O (sl false 2 (l.map (Keyy.c false))), A (Name.c false key), A (Name.c false n), Ys false b, I till] (DB (swkR l key n b till) (swkO l key n b till)) := by
  refine fok envOk mixed is50 ⟨rfl, rfl, ?_⟩
  have hs := @swk_sz l key n b till hk hn hb
  have h1 := s_SignData (secOf l key) ⟨n, b, key, till, 0⟩ ⟨hn, hb, hk⟩
  have h2 := s_ValidData (swk l key n b till) hs
  (repeat' ((conv => whnf); first | refine stp ?_ | refine Br.mk (fun _ => ?_) (fun _ => ?_) | refine Cl.mk (s_SecretOf l key hl hk) ?_ | refine Cl.mk (h1) ?_ | refine Cl.mk (h2) ?_ | refine Cl.pre (by simp only [shcLL_ints, shcLL_byts, shcLL_strs, Data.shcs, Fetc.shcs, Gran.shcs, Keyy.shcs, Mani.shcs, Name.shcs, Read.shcs, Rout.shcs, Segm.shcs, TEnt.shcs]; rfl) ?_))
  all_goals (refine Vs.Fin.mk ?_ (.refl _); first
    | (have hO : swkO l key n b till = false := by (simp_all [swkO]; done)
       rw [swkR, hO]; exact db_nil)
    | (have hO : swkO l key n b till = true := by (simp_all [swkO]; done)
       rw [swkR, hO]; exact WkR.refl _))
theorem is27 : FI 27 Tryz.f27 := ⟨⟨Tryz.f27, Tryz.func27, rfl, rfl, rfl, rfl⟩, rfl⟩
set_option maxRecDepth 20000 in
set_option maxHeartbeats 16000000 in
theorem i_SignWithKey (l : List Keyy) (key n : Name) (b : List UInt8) (till : Int) (hl : l.length + sumN Keyy.size l ≤ 1048576) (hk : strsSize key.parts ≤ 1048576) (hn : strsSize n.parts ≤ 1048576) (hb : b.length ≤ 1048576) : FO 27 [O (sl false 2 (l.map (Keyy.c false))), A (Name.c false key), A (Name.c false n), Ys false b, I till] [O (sl false 2 (l.map (Keyy.c false))), A (Name.c false key), A (Name.c false n), Ys false b, I till] (DB (swkR l key n b till) (swkO l key n b till)) := by
  refine fok envOk mixed is27 ⟨rfl, rfl, ?_⟩
  have hs := @swk_sz l key n b till hk hn hb
  have h1 := i_SignData (secOf l key) ⟨n, b, key, till, 0⟩ ⟨hn, hb, hk⟩
  have h2 := i_ValidData (swk l key n b till) hs
  (repeat' ((conv => whnf); first | refine stp ?_ | refine Br.mk (fun _ => ?_) (fun _ => ?_) | refine Cl.mk (i_SecretOf l key hl hk) ?_ | refine Cl.mk (h1) ?_ | refine Cl.mk (h2) ?_ | refine Cl.pre (by simp only [shcLL_ints, shcLL_byts, shcLL_strs, Data.shcs, Fetc.shcs, Gran.shcs, Keyy.shcs, Mani.shcs, Name.shcs, Read.shcs, Rout.shcs, Segm.shcs, TEnt.shcs]; rfl) ?_))
  all_goals (refine Vs.Fin.mk ?_ (.refl _); first
    | (have hO : swkO l key n b till = false := by (simp_all [swkO]; done)
       rw [swkR, hO]; exact db_nil)
    | (have hO : swkO l key n b till = true := by (simp_all [swkO]; done)
       rw [swkR, hO]; exact WkR.refl _))
end Go.Proofs.YtoekfmkbkffciaaGreatDoor
