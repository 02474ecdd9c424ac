/-
 The document's plan row by row,by the abstract machine.
-/
import Derived.Test.YtmgfcjblclanmaaGreatDoorDTO7
import Derived.Test.YtmgfcjblclanmaaGreatDoorDTO5
import Derived.Test.YtmgfcjblclanmaaGreatDoorDTO3
import Derived.Test.YtmgfcjblclanmaaGreatDoorDTO6
set_option linter.unusedVariables false
set_option linter.unusedSimpArgs false
set_option maxRecDepth 100000
namespace Go.Proofs.YtmgfcjblclanmaaGreatDoor
open Go.RowKit
def rdTo (W : Waf) (card : List Pt) (k : Nat) : List Pt × List Pt × Nat := ((opV W).take k).foldl (rowD W card) ([],[],0)
theorem rdTo_succ {W : Waf} {card : List Pt} {k : Nat} (h : k < (opV W).length) : rdTo W card (k + 1) = rowD W card (rdTo W card k) ((opV W).getD k p0) := by
 unfold rdTo
 rw [take_snoc (x := (opV W).getD k p0) (by rw [List.getD_eq_getElem?_getD,List.getElem?_eq_getElem h]; rfl),List.foldl_append]
 rfl
theorem rdTo_all (W : Waf) (card : List Pt) : rdTo W card (opV W).length = rowsD W card := by unfold rdTo rowsD; rw [List.take_length]
theorem rowD_len {W : Waf} {card : List Pt} {st : List Pt × List Pt × Nat} (p : Pt) : (rowD W card st p).1.length ≤ st.1.length + card.length ∧ (rowD W card st p).2.1.length ≤ st.2.1.length + 1 ∧ (rowD W card st p).2.2 ≤ st.2.2 + card.length := by
 unfold rowD
 split
 ·simp
 ·have h1 := List.length_filter_le (badT W st.1) (touchL card (downP card p))
  have h2 := List.length_filter_le (fun q => untB W q && !st.1.contains q) (touchL card (downP card p))
  rw [touchL_len] at h1 h2
  simp only [List.length_append,List.length_singleton]
  omega
theorem rdTo_len {W : Waf} {card : List Pt} : ∀ k,k ≤ (opV W).length → (rdTo W card k).1.length ≤ k * card.length ∧ (rdTo W card k).2.1.length ≤ k ∧ (rdTo W card k).2.2 ≤ k * card.length
 | 0,_ => by simp [rdTo]
 | k + 1,h => by
  have h1 := rdTo_len (W := W) (card := card) k (by omega)
  have h2 := rowD_len (W := W) (card := card) (st := rdTo W card k) ((opV W).getD k p0)
  rw [rdTo_succ (by omega),Nat.succ_mul]
  omega
def seenR (W : Waf) (S T : List Pt) (k : Nat) : List Pt := S ++ (T.take k).filter (fun q => untB W q && !S.contains q)
theorem seenR_succ (W : Waf) (S : List Pt) {T : List Pt} {k : Nat} (h : k < T.length) : seenR W S T (k + 1) = seenR W S T k ++ (if (untB W (T.getD k p0) && !S.contains (T.getD k p0)) = true then [T.getD k p0] else []) := by
 unfold seenR
 rw [take_snoc (x := T.getD k p0) (by rw [List.getD_eq_getElem?_getD,List.getElem?_eq_getElem h]; rfl),List.filter_append,List.append_assoc]
 congr 2
 generalize T.getD k p0 = q
 cases hh : (untB W q && !S.contains q) <;> simp only [List.filter_cons,List.filter_nil,hh] <;> rfl
theorem seenR_len (W : Waf) (S T : List Pt) (k : Nat) : (seenR W S T k).length ≤ S.length + T.length := by
 unfold seenR
 have := List.length_filter_le (fun q => untB W q && !S.contains q) (T.take k)
 rw [List.length_take] at this
 rw [List.length_append]
 omega
theorem seenR_has {W : Waf} {S T : List Pt} (hn : T.Nodup) {k : Nat} (h : k < T.length) : (seenR W S T k).contains (T.getD k p0) = S.contains (T.getD k p0) := by
 have hno : T.getD k p0 ∉ T.take k := fun hm => by
  obtain ⟨j,hj,e⟩ := List.mem_take_iff_getElem.1 hm
  rw [List.getD_eq_getElem?_getD,List.getElem?_eq_getElem h,Option.getD_some] at e
  exact List.pairwise_iff_getElem.1 hn j k (by omega) h (by omega) e
 unfold seenR
 rw [Bool.eq_iff_iff,List.contains_iff_mem,List.contains_iff_mem,List.mem_append]
 constructor
 ·rintro (hs | hs)
  ·exact hs
  ·exact absurd (List.mem_filter.1 hs).1 hno
 ·exact fun hs => .inl hs
set_option maxHeartbeats 8000000 in
theorem rowsOf_all (nl nlc : Bool) (W : Waf) (card : List Pt) (nid : Nat) (hW : WafOk W) (hcp : 0 < card.length) (hl : card.length ≤ 1000) (hsz : (opV W).length * card.length ≤ 100000) (hn : card.Nodup) (hc : ∀ p ∈ card,p.1 ≤ 100 ∧ -100 ≤ p.1 ∧ p.2 ≤ 100 ∧ -100 ≤ p.2) :
  ACall Tryz.prog 21 [wafP nl W,litPl nlc card] [] nid (.tup [.sl nid 0 (rowsD W card).2.1.length,.int .i64 ((rowsD W card).2.2 : Nat)]) [(nid,arrPl (rowsD W card).2.1)] := by
 have hpl := plTo_bd hW (Nat.le_refl _)
 have hplv : (plV W).length ≤ 60000 := hpl
 have hopl : (opV W).length ≤ 60000 := Nat.le_trans (List.length_filter_le _ _) hplv
 have hdi := fun (p : Pt) k (hp : inI64 p.1 ∧ inI64 p.2) => dieR_all nl W p.1 p.2 k hW hp.1 hp.2
 have hte := fun (p : Pt) k hp => testedR_all nl W p k hW hp
 have hun := fun k => untR_c nl W k hW
 have hto := fun (a : Pt) k ha => sites_all nlc card a k hl (fun p hp => by obtain ⟨b1,b2,b3,b4⟩ := hc p hp; unfold PtBd; omega) ha
 have hop : ∀ p ∈ opV W,p.1 ≤ 100 ∧ 0 ≤ p.1 ∧ p.2 ≤ 100 ∧ 0 ≤ p.2 := fun p hp => by
  obtain ⟨x,y,rfl,h1,h2⟩ := plV_mem (List.mem_filter.1 hp).1
  have := (hW.at h1).1
  have := hW.wide.2
  have := hW.len
  simp only
  omega
 rw [← rdTo_all]
 have hsu := fun k h => rdTo_succ (W := W) (card := card) (k := k) h
 have hlen := fun k h => rdTo_len (W := W) (card := card) k h
 have hrd0 : rdTo W card 0 = ([],[],0) := by simp [rdTo]
 generalize hopd : opV W = op at *
 refine acall_sr c21 (by simp [a21]) ?_
 unfold a21
 unfold wafP litPl at *
 refine SR.seq ?_
 simp -dsimp only [aqA,↓seqK,↓blkK,↓loopK,step,stepBin,eqB,Nat.add_assoc nid,↓reduceIte,simprocAttr,LN_succ]
 refine SR.seq ?_
 simp -dsimp only [aqA,↓seqK,↓blkK,↓loopK,step,stepBin,eqB,Nat.add_assoc nid,↓reduceIte,simprocAttr,LN_succ]
 refine SR.seq ?_
 simp -dsimp only [aqA,↓seqK,↓blkK,↓loopK,step,stepBin,eqB,Nat.add_assoc nid,↓reduceIte,simprocAttr,LN_succ]
 refine SR.seqW (ι := Unit) (fun _ => ⟨[(8,.int .i64 ((rdTo W card op.length).2.2 : Nat)),(6,.sl (nid + 4) 0 (rdTo W card op.length).2.1.length)],[(nid + 4,arrPl (rdTo W card op.length).2.1)],nid + 90000,nid⟩) ?_ (fun _ => ?_)
 ·refine SR.seqTo ⟨[(17,.int .i64 0),(16,.int .i64 op.length),(15,.sl (nid + 12) 0 op.length),(8,.int .i64 0),(7,.sl (nid + 8) 0 (([] : List Pt)).length),(6,.sl (nid + 4) 0 (([] : List Pt)).length),(1,litPl nlc card),(2,.ptr nid 0)],[(nid,boxW nl W),(nid + 4,arrPl ([])),(nid + 8,arrPl ([])),(nid + 12,arrPl op)],nid + 200,nid⟩ ?_ ?_
  ·simp -dsimp only [aqA,↓seqK,↓blkK,↓loopK,step,stepBin,eqB,Nat.add_assoc nid,↓reduceIte,simprocAttr,LN_succ]
   refine CallO.pure (hun _) ?_
   unfold arrPl
   simp -dsimp only [aqA,↓seqK,↓blkK,↓loopK,step,stepBin,eqB,Nat.add_assoc nid,↓reduceIte,simprocAttr,LN_succ]
   refine Cov.go [(nid + 12,nid + 28)] [(nid + 4,2),(nid + 8,2)] ?_
   simp [cvT,step,res,boxW,arrPl,litPl,-List.getD_eq_getElem?_getD,-List.length_append]
  refine SR.block ?_
  refine SR.loopP (fun k : Nat => k ≤ op.length) (fun k : Nat => ⟨[(17,.int .i64 k),(16,.int .i64 op.length),(15,.sl (nid + 12) 0 op.length),(8,.int .i64 ((rdTo W card k).2.2 : Nat)),(7,.sl (nid + 8) 0 ((rdTo W card k).1).length),(6,.sl (nid + 4) 0 ((rdTo W card k).2.1).length),(1,litPl nlc card),(2,.ptr nid 0)],[(nid,boxW nl W),(nid + 4,arrPl ((rdTo W card k).2.1)),(nid + 8,arrPl ((rdTo W card k).1)),(nid + 12,arrPl op)],nid + 300,nid⟩) (fun k => op.length + 1 - k) 0 (Nat.zero_le _) (Cov.go [] [] ?_) (fun k hk => ?_)
  ·rw [hrd0]
   simp [cvT,step,res,boxW,arrPl,litPl,-List.getD_eq_getElem?_getD,-List.length_append]
  obtain ⟨len1,len2,len3⟩ := hlen k hk
  have hmul : k * card.length ≤ op.length * card.length := Nat.mul_le_mul_right _ hk
  refine SR.seq ?_
  unfold arrPl boxW litPl
  simp -dsimp only [aqA,↓seqK,↓blkK,↓loopK,step,stepBin,eqB,Nat.add_assoc nid,↓reduceIte,simprocAttr,LN_succ]
  refine SR.seq ?_
  simp -dsimp only [aqA,↓seqK,↓blkK,↓loopK,step,stepBin,eqB,Nat.add_assoc nid,↓reduceIte,simprocAttr,LN_succ]
  refine S2.dec (fun h3 => ?_) (fun h3 => ?_) <;> simp -dsimp only [aqA,↓seqK,↓blkK,↓loopK,step,stepBin,eqB,Nat.add_assoc nid,↓reduceIte,simprocAttr,LN_succ]
  ·have hkl : k < op.length := by omega
   have hps := hop _ (ptMem hkl)
   have hsu' := hsu k hkl
   refine SR.seqW (ι := Unit) (fun _ => ⟨[(17,.int .i64 k),(16,.int .i64 op.length),(15,.sl (nid + 12) 0 op.length),(8,.int .i64 ((rdTo W card (k + 1)).2.2 : Nat)),(7,.sl (nid + 8) 0 ((rdTo W card (k + 1)).1).length),(6,.sl (nid + 4) 0 ((rdTo W card (k + 1)).2.1).length),(1,litPl nlc card),(2,.ptr nid 0)],[(nid,boxW nl W),(nid + 4,arrPl ((rdTo W card (k + 1)).2.1)),(nid + 8,arrPl ((rdTo W card (k + 1)).1)),(nid + 12,arrPl op)],nid + 9000,nid⟩) ?_ (fun _ => ?_)
   ·refine SR.block ?_
    refine SR.seq ?_
    simp -dsimp only [aqA,↓seqK,↓blkK,↓loopK,step,stepBin,eqB,Nat.add_assoc nid,↓reduceIte,simprocAttr,LN_succ]
    refine ⟨by omega,?_⟩
    rw [hsu']
    generalize rdTo W card k = st at *
    obtain ⟨S,out,again⟩ := st
    simp only at len1 len2 len3 ⊢
    generalize op.getD k p0 = p at *
    have hd1 : downP card p = (p.1 - (card.getD 0 p0).1,p.2 - (card.getD 0 p0).2) := rfl
    have hc0 := hc _ (ptMem hcp)
    have hro : rowD W card (S,out,again) p = if S.contains p = true then (S,out,again) else (S ++ (touchL card (downP card p)).filter (fun q => untB W q && !S.contains q),out ++ [downP card p],again + ((touchL card (downP card p)).filter (badT W S)).length) := rfl
    rw [hro]
    have hcS := fun nl' k => containsPt_c nl' S p k (by omega)
    unfold litPl at hcS
    refine SR.seqEx (ι := PLift (S.contains p = false)) (fun _ => ⟨[(10,.ptr (nid + 16) 0),(17,.int .i64 k),(16,.int .i64 op.length),(15,.sl (nid + 12) 0 op.length),(8,.int .i64 (again : Nat)),(7,.sl (nid + 8) 0 (S).length),(6,.sl (nid + 4) 0 (out).length),(1,litPl nlc card),(2,.ptr nid 0)],[(nid,boxW nl W),(nid + 4,arrPl (out)),(nid + 8,arrPl (S)),(nid + 12,arrPl op),(nid + 16,some (.box 34 [.int .i64 p.1,.int .i64 p.2]))],nid + 500,nid⟩) ?_ (fun ⟨hno⟩ => ?_)
    ·simp -dsimp only [aqA,↓seqK,↓blkK,↓loopK,step,stepBin,eqB,Nat.add_assoc nid,↓reduceIte,simprocAttr,LN_succ]
     refine CallO.lent [nid + 8] (fun nl' => by
      simp only [lends,lend,noOs,aqA,↓seqK,↓blkK,↓loopK,step,stepBin,eqB,Nat.add_assoc nid,↓reduceIte,simprocAttr,LN_succ]
      exact hcS _ _) rfl rfl (by simp [getH]) ?_
     simp -dsimp only [aqA,↓seqK,↓blkK,↓loopK,step,stepBin,eqB,Nat.add_assoc nid,↓reduceIte,simprocAttr,LN_succ]
     cases hs : S.contains p <;> simp -dsimp only [aqA,↓seqK,↓blkK,↓loopK,step,stepBin,eqB,Nat.add_assoc nid,↓reduceIte,simprocAttr,LN_succ]
     ·refine ⟨⟨rfl⟩,Cov.go [(nid + 16,nid + 312)] [] ?_⟩
      simp [cvT,step,res,boxW,arrPl,litPl,-List.getD_eq_getElem?_getD,-List.length_append]
     ·refine ⟨(),Cov.go [] [] ?_⟩
      simp [cvT,step,res,boxW,arrPl,litPl,-List.getD_eq_getElem?_getD,-List.length_append]
    rw [if_neg (by rw [hno]; simp)]
    have hdb : PtBd (downP card p) ∧ inI64 (p.1 - (card.getD 0 p0).1) ∧ inI64 (p.2 - (card.getD 0 p0).2) := by unfold downP PtBd inI64; simp only; omega
    have hds : (downP card p).1 ≤ 200 ∧ -200 ≤ (downP card p).1 ∧ (downP card p).2 ≤ 200 ∧ -200 ≤ (downP card p).2 := by unfold downP; simp only; omega
    refine SR.seqTo ⟨[(11,.ptr (nid + 20) 0),(17,.int .i64 k),(16,.int .i64 op.length),(15,.sl (nid + 12) 0 op.length),(8,.int .i64 (again : Nat)),(7,.sl (nid + 8) 0 (S).length),(6,.sl (nid + 4) 0 (out).length),(1,litPl nlc card),(2,.ptr nid 0)],[(nid,boxW nl W),(nid + 4,arrPl (out)),(nid + 8,arrPl (S)),(nid + 12,arrPl op),(nid + 20,some (.box 34 [.int .i64 (downP card p).1,.int .i64 (downP card p).2]))],nid + 3000,nid⟩ ?_ ?_
    ·unfold arrPl boxW litPl
     simp -dsimp only [aqA,↓seqK,↓blkK,↓loopK,step,stepBin,eqB,Nat.add_assoc nid,↓reduceIte,simprocAttr,LN_succ]
     refine ⟨by omega,hdb.2.1,by omega,hdb.2.2,Cov.go [(nid + 20,nid + 560)] [] ?_⟩
     simp [cvT,step,res,hd1,-List.getD_eq_getElem?_getD]
    have htn : (touchL card (downP card p)).Nodup := touchL_nodup hn (downP card p)
    have htl := touchL_len card (downP card p)
    have hin : ∀ q ∈ touchL card (downP card p),inI64 q.1 ∧ inI64 q.2 := fun q hq => touchL_in (card := card) (a := downP card p) (fun r hr => by have := hc r hr; omega) (by omega) hq
    have htd := fun m => hto (downP card p) m hdb.1
    have hS0 : seenR W S (touchL card (downP card p)) 0 = S := by simp [seenR]
    have hA0 : againTo W S (touchL card (downP card p)) 0 = 0 := by simp [againTo]
    have hSn : seenR W S (touchL card (downP card p)) (touchL card (downP card p)).length = S ++ (touchL card (downP card p)).filter (fun q => untB W q && !S.contains q) := by unfold seenR; rw [List.take_length]
    have hAn : againTo W S (touchL card (downP card p)) (touchL card (downP card p)).length = ((touchL card (downP card p)).filter (badT W S)).length := by unfold againTo; rw [List.take_length]
    have hAl : ∀ j,againTo W S (touchL card (downP card p)) j ≤ (touchL card (downP card p)).length := fun j => by
     have h1 := List.length_filter_le (badT W S) ((touchL card (downP card p)).take j)
     unfold againTo
     rw [List.length_take] at h1
     omega
    generalize downP card p = d at *
    refine SR.seqTo ⟨[(11,.ptr (nid + 20) 0),(17,.int .i64 k),(16,.int .i64 op.length),(15,.sl (nid + 12) 0 op.length),(8,.int .i64 (again : Nat)),(7,.sl (nid + 8) 0 (S).length),(6,.sl (nid + 4) 0 (out ++ [d]).length),(1,litPl nlc card),(2,.ptr nid 0)],[(nid,boxW nl W),(nid + 4,arrPl (out ++ [d])),(nid + 8,arrPl (S)),(nid + 12,arrPl op),(nid + 20,some (.box 34 [.int .i64 d.1,.int .i64 d.2]))],nid + 5000,nid⟩ ?_ ?_
    ·unfold arrPl boxW litPl
     simp -dsimp only [aqA,↓seqK,↓blkK,↓loopK,step,stepBin,eqB,Nat.add_assoc nid,↓reduceIte,simprocAttr,LN_succ]
     rw [getD_appP out d rfl (fun q => q.1) rfl rfl,getD_appP out d rfl (fun q => q.2) rfl rfl]
     have hol : (out ++ [d]).length = out.length + 1 := by simp
     refine ⟨⟨by omega,by omega⟩,Cov.go [(nid + 4,nid + 3012)] [] ?_⟩
     simp [cvT,step,res,hol,-List.getD_eq_getElem?_getD,-List.length_append]
    refine SR.seqTo ⟨[(47,.int .i64 0),(46,.int .i64 (touchL card d).length),(45,.sl (nid + 24) 0 (touchL card d).length),(17,.int .i64 k),(16,.int .i64 op.length),(15,.sl (nid + 12) 0 op.length),(8,.int .i64 (again : Nat)),(7,.sl (nid + 8) 0 (S).length),(6,.sl (nid + 4) 0 (out ++ [d]).length),(1,litPl nlc card),(2,.ptr nid 0)],[(nid,boxW nl W),(nid + 4,arrPl (out ++ [d])),(nid + 8,arrPl (S)),(nid + 12,arrPl op),(nid + 24,arrPl (touchL card d))],nid + 6000,nid⟩ ?_ ?_
    ·unfold arrPl boxW litPl
     unfold arrPl at htd
     simp -dsimp only [aqA,↓seqK,↓blkK,↓loopK,step,stepBin,eqB,Nat.add_assoc nid,↓reduceIte,simprocAttr,LN_succ]
     refine CallO.pure (htd _) ?_
     simp -dsimp only [aqA,↓seqK,↓blkK,↓loopK,step,stepBin,eqB,Nat.add_assoc nid,↓reduceIte,simprocAttr,LN_succ]
     refine Cov.go [(nid + 24,nid + 5008)] [] ?_
     simp [cvT,step,res,-List.getD_eq_getElem?_getD,-List.length_append]
    generalize hTd : touchL card d = T at *
    have hss := fun j h => seenR_succ W S (T := T) (k := j) h
    have hsl := fun j => seenR_len W S T j
    have has := fun j h => againTo_succ W S (T := T) (k := j) h
    have hsh := fun j h => seenR_has (W := W) (S := S) htn (k := j) h
    rw [← hSn,← hAn]
    refine SR.block ?_
    refine SR.loopP (fun j : Nat => j ≤ T.length) (fun j : Nat => ⟨[(47,.int .i64 j),(46,.int .i64 T.length),(45,.sl (nid + 24) 0 T.length),(17,.int .i64 k),(16,.int .i64 op.length),(15,.sl (nid + 12) 0 op.length),(8,.int .i64 ((again + againTo W S T j : Nat) : Int)),(7,.sl (nid + 8) 0 (seenR W S T j).length),(6,.sl (nid + 4) 0 (out ++ [d]).length),(1,litPl nlc card),(2,.ptr nid 0)],[(nid,boxW nl W),(nid + 4,arrPl (out ++ [d])),(nid + 8,arrPl (seenR W S T j)),(nid + 12,arrPl op),(nid + 24,arrPl T)],nid + 6100,nid⟩) (fun j => T.length + 1 - j) 0 (Nat.zero_le _) (Cov.go [] [] ?_) (fun j hj => ?_)
    ·simp [cvT,step,res,boxW,arrPl,litPl,hS0,hA0,-List.getD_eq_getElem?_getD,-List.length_append]
    have hAj := hAl j
    refine SR.seq ?_
    unfold arrPl boxW litPl
    simp -dsimp only [aqA,↓seqK,↓blkK,↓loopK,step,stepBin,eqB,Nat.add_assoc nid,↓reduceIte,simprocAttr,LN_succ]
    refine SR.seq ?_
    simp -dsimp only [aqA,↓seqK,↓blkK,↓loopK,step,stepBin,eqB,Nat.add_assoc nid,↓reduceIte,simprocAttr,LN_succ]
    refine S2.dec (fun h5 => ?_) (fun h5 => ?_) <;> simp -dsimp only [aqA,↓seqK,↓blkK,↓loopK,step,stepBin,eqB,Nat.add_assoc nid,↓reduceIte,simprocAttr,LN_succ]
    ·have hjl : j < T.length := by omega
     have hqi := hin _ (ptMem hjl)
     have hsj := hss j hjl
     have haj := has j hjl
     have hhj := hsh j hjl
     have hslj := hsl j
     have hdq : badT W S (T.getD j p0) = (allP W (T.getD j p0) || S.contains (T.getD j p0)) := rfl
     have huq : untB W (T.getD j p0) = (dieV W (T.getD j p0).1 (T.getD j p0).2 == 63) := rfl
     have hdiq := fun m => hdi (T.getD j p0) m hqi
     have hteq := fun m => hte (T.getD j p0) m hqi
     have hcq := fun nl' m => containsPt_c nl' (seenR W S T j) (T.getD j p0) m (by omega)
     rw [hhj] at hcq
     unfold litPl at hcq
     generalize hqd : T.getD j p0 = q at *
     generalize dieV W q.1 q.2 = c at *
     refine SR.seqW (ι := Unit) (fun _ => ⟨[(47,.int .i64 j),(46,.int .i64 T.length),(45,.sl (nid + 24) 0 T.length),(17,.int .i64 k),(16,.int .i64 op.length),(15,.sl (nid + 12) 0 op.length),(8,.int .i64 ((again + againTo W S T (j + 1) : Nat) : Int)),(7,.sl (nid + 8) 0 (seenR W S T (j + 1)).length),(6,.sl (nid + 4) 0 (out ++ [d]).length),(1,litPl nlc card),(2,.ptr nid 0)],[(nid,boxW nl W),(nid + 4,arrPl (out ++ [d])),(nid + 8,arrPl (seenR W S T (j + 1))),(nid + 12,arrPl op),(nid + 24,arrPl T)],nid + 8000,nid⟩) ?_ (fun _ => ?_)
     ·refine SR.block ?_
      refine SR.seq ?_
      simp -dsimp only [aqA,↓seqK,↓blkK,↓loopK,step,stepBin,eqB,Nat.add_assoc nid,↓reduceIte,simprocAttr,LN_succ]
      refine ⟨by omega,?_⟩
      rw [hqd]
      refine SR.seqTo ⟨[(13,.ptr (nid + 28) 0),(47,.int .i64 j),(46,.int .i64 T.length),(45,.sl (nid + 24) 0 T.length),(17,.int .i64 k),(16,.int .i64 op.length),(15,.sl (nid + 12) 0 op.length),(8,.int .i64 ((again + againTo W S T (j + 1) : Nat) : Int)),(7,.sl (nid + 8) 0 (seenR W S T j).length),(6,.sl (nid + 4) 0 (out ++ [d]).length),(1,litPl nlc card),(2,.ptr nid 0)],[(nid,boxW nl W),(nid + 4,arrPl (out ++ [d])),(nid + 8,arrPl (seenR W S T j)),(nid + 12,arrPl op),(nid + 24,arrPl T),(nid + 28,some (.box 34 [.int .i64 q.1,.int .i64 q.2]))],nid + 6600,nid⟩ ?_ ?_
      ·simp -dsimp only [aqA,↓seqK,↓blkK,↓loopK,step,stepBin,eqB,Nat.add_assoc nid,↓reduceIte,simprocAttr,LN_succ]
       refine CallO.lent [nid + 8] (fun nl' => by
        simp only [lends,lend,noOs,aqA,↓seqK,↓blkK,↓loopK,step,stepBin,eqB,Nat.add_assoc nid,↓reduceIte,simprocAttr,LN_succ]
        exact hcq _ _) rfl rfl (by simp [getH]) ?_
       cases hsc : S.contains q <;> rw [hsc] at hdq <;> simp -dsimp only [aqA,↓seqK,↓blkK,↓loopK,step,stepBin,eqB,Nat.add_assoc nid,↓reduceIte,simprocAttr,LN_succ]
       ·refine CallO.pure (hteq _) ?_
        simp -dsimp only [aqA,↓seqK,↓blkK,↓loopK,step,stepBin,eqB,Nat.add_assoc nid,↓reduceIte,simprocAttr,LN_succ]
        refine CallO.pure (truthW_c _ _) ?_
        cases ht : allP W q <;> rw [ht] at hdq <;> rw [hdq] at haj <;> simp -dsimp only [aqA,↓seqK,↓blkK,↓loopK,step,stepBin,eqB,Nat.add_assoc nid,↓reduceIte,simprocAttr,LN_succ,if_true,if_false,Bool.false_eq_true]
        ·simp only [Bool.or_self,Bool.false_eq_true,if_false,Nat.add_zero] at haj
         refine ⟨by unfold inI64; omega,Cov.go [(nid + 28,nid + 6112)] [] ?_⟩
         simp [cvT,step,res,boxW,arrPl,litPl,haj,-List.getD_eq_getElem?_getD,-List.length_append]
        ·simp only [Bool.or_false,if_true] at haj
         refine ⟨by unfold inI64; omega,Cov.go [(nid + 28,nid + 6112)] [] ?_⟩
         simp [cvT,step,res,boxW,arrPl,litPl,haj,-List.getD_eq_getElem?_getD,-List.length_append]
         try omega
       ·refine CallO.pure (truthW_c _ _) ?_
        rw [hdq] at haj
        simp -dsimp only [aqA,↓seqK,↓blkK,↓loopK,step,stepBin,eqB,Nat.add_assoc nid,↓reduceIte,simprocAttr,LN_succ,if_true,if_false,Bool.false_eq_true]
        simp only [Bool.or_true,if_true] at haj
        refine ⟨by unfold inI64; omega,Cov.go [(nid + 28,nid + 6112)] [] ?_⟩
        simp [cvT,step,res,boxW,arrPl,litPl,haj,-List.getD_eq_getElem?_getD,-List.length_append]
        try omega
      refine SR.run (t := .mk) ?_
      unfold arrPl boxW litPl
      simp -dsimp only [aqA,↓seqK,↓blkK,↓loopK,step,stepBin,eqB,Nat.add_assoc nid,↓reduceIte,simprocAttr,LN_succ]
      refine CallO.pure (hdiq _) ?_
      cases hu : (c == 63) <;> rw [hu] at huq <;> simp -dsimp only [aqA,↓seqK,↓blkK,↓loopK,step,stepBin,eqB,Nat.add_assoc nid,↓reduceIte,simprocAttr,LN_succ,hu]
      ·rw [huq,Bool.false_and,if_neg (by simp),List.append_nil] at hsj
       rw [hsj]
       refine ⟨(),Cov.go [] [] ?_⟩
       simp [cvT,step,res,boxW,arrPl,litPl,-List.getD_eq_getElem?_getD,-List.length_append]
      ·refine CallO.lent [nid + 8] (fun nl' => by
        simp only [lends,lend,noOs,aqA,↓seqK,↓blkK,↓loopK,step,stepBin,eqB,Nat.add_assoc nid,↓reduceIte,simprocAttr,LN_succ]
        exact hcq _ _) rfl rfl (by simp [getH]) ?_
       cases hsc : S.contains q <;> simp -dsimp only [aqA,↓seqK,↓blkK,↓loopK,step,stepBin,eqB,Nat.add_assoc nid,↓reduceIte,simprocAttr,LN_succ]
       ·rw [huq,hsc,if_pos (by simp)] at hsj
        have hsjl : (seenR W S T (j + 1)).length = (seenR W S T j).length + 1 := by rw [hsj]; simp
        rw [getD_appP (seenR W S T j) q rfl (fun q => q.1) rfl rfl,getD_appP (seenR W S T j) q rfl (fun q => q.2) rfl rfl,← hsj]
        refine ⟨⟨by omega,by omega⟩,(),Cov.go [(nid + 8,nid + 6652)] [] ?_⟩
        simp [cvT,step,res,boxW,arrPl,litPl,hsjl,-List.getD_eq_getElem?_getD,-List.length_append]
       ·rw [huq,hsc,if_neg (by simp),List.append_nil] at hsj
        rw [hsj]
        refine ⟨(),Cov.go [] [] ?_⟩
        simp [cvT,step,res,boxW,arrPl,litPl,-List.getD_eq_getElem?_getD,-List.length_append]
     ·refine SR.run (t := .mk) ?_
      simp -dsimp only [aqA,↓seqK,↓blkK,↓loopK,step,stepBin,eqB,Nat.add_assoc nid,↓reduceIte,simprocAttr,LN_succ]
      refine ⟨by unfold inI64; omega,j + 1,⟨by omega,by omega⟩,Cov.go [] [] ?_⟩
      simp [cvT,step,res,boxW,arrPl,litPl,-List.getD_eq_getElem?_getD,-List.length_append]
    ·obtain rfl : j = T.length := by omega
     refine ⟨(),Cov.go [] [] ?_⟩
     simp [cvT,step,res,boxW,arrPl,litPl,-List.getD_eq_getElem?_getD,-List.length_append]
   ·refine SR.run (t := .mk) ?_
    simp -dsimp only [aqA,↓seqK,↓blkK,↓loopK,step,stepBin,eqB,Nat.add_assoc nid,↓reduceIte,simprocAttr,LN_succ]
    refine ⟨by unfold inI64; omega,k + 1,⟨by omega,by omega⟩,Cov.go [] [] ?_⟩
    simp [cvT,step,res,boxW,arrPl,litPl,-List.getD_eq_getElem?_getD,-List.length_append]
  ·obtain rfl : k = op.length := by omega
   refine ⟨(),Cov.go [] [] ?_⟩
   simp [cvT,step,res,boxW,arrPl,litPl,-List.getD_eq_getElem?_getD,-List.length_append]
 ·refine SR.run (t := .mk) ?_
  unfold arrPl
  simp -dsimp only [aqA,↓seqK,↓blkK,↓loopK,step,stepBin,eqB,Nat.add_assoc nid,↓reduceIte,simprocAttr,LN_succ]
  refine RetOK.go [(nid,nid + 4)] [] (.inl rfl) ?_
  simp [a21,cvT,step,res,-List.getD_eq_getElem?_getD]
end Go.Proofs.YtmgfcjblclanmaaGreatDoor
namespace Go.Proofs.YtmgfcjblclanmaaGreatDoor
open Go.RowKit
theorem touched_bad (nl nlc : Bool) (W : Waf) (card : List Pt) (a : Pt) (nid : Nat) (hWb : WafBd W) (h0 : cfV W card ≠ 0) (hl : card.length ≤ 1000) :
  ACall Tryz.prog 15 [wafP nl W,litPl nlc card,.agg [.int .i64 a.1,.int .i64 a.2]] [] nid (.tup [.lit true 0 [],.int .i64 0,.int .i64 (cfV W card)]) [] := by
 have hf := fun k => cardFault_all nl nlc W card k hWb (by omega)
 have hne : (cfV W card != 0) = true := by rw [bne_iff_ne]; exact h0
 generalize cfV W card = v at *
 refine acall_run c15 (by simp [a15]) ?_
 unfold wafP litPl at *
 simp -dsimp only [aqA,↓seqK,↓blkK,↓loopK,step,stepBin,eqB,Nat.add_assoc nid,↓reduceIte,simprocAttr,LN_succ,a15]
 refine CallO.pure (hf _) ?_
 simp -dsimp only [aqA,↓seqK,↓blkK,↓loopK,step,stepBin,eqB,Nat.add_assoc nid,↓reduceIte,simprocAttr,LN_succ,hne]
 refine RetOK.go [] [] (.inl rfl) ?_
 simp [a15,cvT,step,res]
theorem rows_bad (nl nlc : Bool) (W : Waf) (card : List Pt) (nid : Nat) (hWb : WafBd W) (h0 : cfV W card ≠ 0) (hl : card.length ≤ 1000) :
  ACall Tryz.prog 16 [wafP nl W,litPl nlc card] [] nid (.tup [.lit true 0 [],.int .i64 0,.int .i64 (cfV W card)]) [] := by
 have hf := fun k => cardFault_all nl nlc W card k hWb (by omega)
 have hne : (cfV W card != 0) = true := by rw [bne_iff_ne]; exact h0
 generalize cfV W card = v at *
 refine acall_sr c16 (by simp [a16]) ?_
 unfold a16
 unfold wafP litPl at *
 refine SR.seq ?_
 simp -dsimp only [aqA,↓seqK,↓blkK,↓loopK,step,stepBin,eqB,Nat.add_assoc nid,↓reduceIte,simprocAttr,LN_succ]
 refine SR.run (t := .mk) ?_
 simp -dsimp only [aqA,↓seqK,↓blkK,↓loopK,step,stepBin,eqB,Nat.add_assoc nid,↓reduceIte,simprocAttr,LN_succ]
 refine CallO.pure (hf _) ?_
 simp -dsimp only [aqA,↓seqK,↓blkK,↓loopK,step,stepBin,eqB,Nat.add_assoc nid,↓reduceIte,simprocAttr,LN_succ,hne]
 refine RetOK.go [] [] (.inl rfl) ?_
 simp [a16,cvT,step,res]
theorem fewest_bad (nl nlc : Bool) (W : Waf) (card : List Pt) (nid : Nat) (hWb : WafBd W) (h0 : cfV W card ≠ 0) (hl : card.length ≤ 1000) :
  ACall Tryz.prog 17 [wafP nl W,litPl nlc card] [] nid (.tup [.lit true 0 [],.bool false,.int .i64 (cfV W card)]) [] := by
 have hf := fun k => cardFault_all nl nlc W card k hWb (by omega)
 have hne : (cfV W card != 0) = true := by rw [bne_iff_ne]; exact h0
 generalize cfV W card = v at *
 refine acall_sr c17 (by simp [a17]) ?_
 unfold a17
 unfold wafP litPl at *
 refine SR.seq ?_
 simp -dsimp only [aqA,↓seqK,↓blkK,↓loopK,step,stepBin,eqB,Nat.add_assoc nid,↓reduceIte,simprocAttr,LN_succ]
 refine SR.run (t := .mk) ?_
 simp -dsimp only [aqA,↓seqK,↓blkK,↓loopK,step,stepBin,eqB,Nat.add_assoc nid,↓reduceIte,simprocAttr,LN_succ]
 refine CallO.pure (hf _) ?_
 simp -dsimp only [aqA,↓seqK,↓blkK,↓loopK,step,stepBin,eqB,Nat.add_assoc nid,↓reduceIte,simprocAttr,LN_succ,hne]
 refine RetOK.go [] [] (.inl rfl) ?_
 simp [a17,cvT,step,res]
theorem touched_off (nl nlc : Bool) (W : Waf) (card : List Pt) (a : Pt) (nid : Nat) (hWb : WafBd W) (h0 : cfV W card = 0) (hl : card.length ≤ 1000) (hoff : outB a.1 (-59) 59 = true ∨ outB a.2 (-59) 59 = true) :
  ACall Tryz.prog 15 [wafP nl W,litPl nlc card,.agg [.int .i64 a.1,.int .i64 a.2]] [] nid (.tup [.lit true 0 [],.int .i64 0,.int .i64 1]) [] := by
 have hf := fun k => cardFault_all nl nlc W card k hWb (by omega)
 rw [h0] at hf
 refine acall_run c15 (by simp [a15]) ?_
 unfold wafP litPl at *
 simp -dsimp only [aqA,↓seqK,↓blkK,↓loopK,step,stepBin,eqB,Nat.add_assoc nid,↓reduceIte,simprocAttr,LN_succ,a15]
 refine CallO.pure (hf _) ?_
 simp -dsimp only [aqA,↓seqK,↓blkK,↓loopK,step,stepBin,eqB,Nat.add_assoc nid,↓reduceIte,simprocAttr,LN_succ]
 refine CallO.pure (out_c _ _ _ _) ?_
 cases h1 : outB a.1 (-59) 59 <;> simp -dsimp only [aqA,↓seqK,↓blkK,↓loopK,step,stepBin,eqB,Nat.add_assoc nid,↓reduceIte,simprocAttr,LN_succ]
 ·have h2 : outB a.2 (-59) 59 = true := by simpa [h1] using hoff
  refine CallO.pure (out_c _ _ _ _) ?_
  rw [h2]
  simp -dsimp only [aqA,↓seqK,↓blkK,↓loopK,step,stepBin,eqB,Nat.add_assoc nid,↓reduceIte,simprocAttr,LN_succ]
  refine RetOK.go [] [] (.inl rfl) ?_
  simp [a15,cvT,step,res]
 ·refine RetOK.go [] [] (.inl rfl) ?_
  simp [a15,cvT,step,res]
set_option maxHeartbeats 4000000 in
theorem fewest_many (nl nlc : Bool) (W : Waf) (card : List Pt) (nid : Nat) (hWb : WafBd W) (hW : WafOk W) (h0 : cfV W card = 0) (hl : card.length ≤ 1000) (hk : 14 < (opV W).length) :
  ACall Tryz.prog 17 [wafP nl W,litPl nlc card] [] nid (.tup [.lit true 0 [],.bool false,.int .i64 2]) [] := by
 have hpl := plTo_bd hW (Nat.le_refl _)
 have hplv : (plV W).length ≤ 60000 := hpl
 have hf := fun k => cardFault_all nl nlc W card k hWb (by omega)
 rw [h0] at hf
 have hK : keepP (fun p => !untB W p) (plV W) = opV W := keep_unt W _
 have hin : ∀ p ∈ plV W,inI64 p.1 ∧ inI64 p.2 := fun p hp => by
  obtain ⟨h1,h2,h3,h4⟩ := plV_bd hW hp
  unfold inI64; omega
 have hdel := fun id k h3 h4 h5 => deleteP1_c 62 id nid nl W (fun p => !untB W p) (plV W) k h3 h4 h5 (by omega) (fun p hp nid' h' => unt2_c nid nl W p nid' h' hW (hin p hp))
 rw [hK] at hdel
 have hpla := fun k => places_all nl W k hW
 generalize doneP (fun p => !untB W p) (plV W) = D at *
 generalize opV W = op at *
 generalize plV W = pl at *
 refine acall_sr c17 (by simp [a17]) ?_
 unfold a17
 unfold wafP litPl at *
 refine SR.seq ?_
 simp -dsimp only [aqA,↓seqK,↓blkK,↓loopK,step,stepBin,eqB,Nat.add_assoc nid,↓reduceIte,simprocAttr,LN_succ]
 refine SR.seqTo ⟨[(1,litPl nlc card),(2,.ptr nid 0)],[(nid,boxW nl W)],nid + 100,nid⟩ ?_ ?_
 ·simp -dsimp only [aqA,↓seqK,↓blkK,↓loopK,step,stepBin,eqB,Nat.add_assoc nid,↓reduceIte,simprocAttr,LN_succ]
  refine CallO.pure (hf _) ?_
  simp -dsimp only [aqA,↓seqK,↓blkK,↓loopK,step,stepBin,eqB,Nat.add_assoc nid,↓reduceIte,simprocAttr,LN_succ]
  refine Cov.go [] [] ?_
  simp [cvT,step,res,boxW,litPl,-List.getD_eq_getElem?_getD]
 refine SR.seqTo ⟨[(8,.sl (nid + 4) 0 op.length)],[(nid + 4,arrPl D)],nid + 200,nid⟩ ?_ ?_
 ·unfold boxW litPl
  simp -dsimp only [aqA,↓seqK,↓blkK,↓loopK,step,stepBin,eqB,Nat.add_assoc nid,↓reduceIte,simprocAttr,LN_succ]
  refine CallO.pure (hpla _) ?_
  unfold arrPl boxW at hdel
  unfold arrPl
  simp -dsimp only [aqA,↓seqK,↓blkK,↓loopK,step,stepBin,eqB,Nat.add_assoc nid,↓reduceIte,simprocAttr,LN_succ]
  refine CallO.on (hdel _ _ (by omega) (by omega) (by omega)) (subH_cons (by simp only [aqA,↓seqK,↓blkK,↓loopK,step,stepBin,eqB,Nat.add_assoc nid,↓reduceIte,simprocAttr,LN_succ]) (subH_get (by simp only [aqA,↓seqK,↓blkK,↓loopK,step,stepBin,eqB,Nat.add_assoc nid,↓reduceIte,simprocAttr,LN_succ]))) ?_
  simp -dsimp only [aqA,↓seqK,↓blkK,↓loopK,step,stepBin,eqB,Nat.add_assoc nid,↓reduceIte,simprocAttr,LN_succ]
  refine Cov.go [(nid + 4,nid + 104)] [] ?_
  simp [cvT,step,res,-List.getD_eq_getElem?_getD]
 have hlen : (14 : Int) < (op.length : Nat) := by omega
 refine SR.run (t := .mk) ?_
 simp -dsimp only [aqA,↓seqK,↓blkK,↓loopK,step,stepBin,eqB,Nat.add_assoc nid,↓reduceIte,simprocAttr,LN_succ,hlen]
 refine RetOK.go [] [] (.inl rfl) ?_
 simp [a17,cvT,step,res]
end Go.Proofs.YtmgfcjblclanmaaGreatDoor
namespace Go.Proofs.YtmgfcjblclanmaaGreatDoor
open Go.RowKit
def w1x (nl : Bool) : PV := .lit nl 1 [.s fun i => [[49,120]].getD i []]
theorem out_00 : outB 0 0 0 = false := by decide
theorem out_01 : outB 0 0 1 = false := by decide
theorem out_11 : outB 1 0 1 = false := by decide
theorem t49 : (isBinV 49 || (49 : Int) == 42) = true := by decide
theorem t120 : (isBinV 120 || (120 : Int) == 42) = true := by decide
theorem p49 : passedV [49] 49 = true := by decide
theorem p120 : passedV [49] 120 = false := by decide
theorem s1x : (([49,120] : List UInt8) == []) = false := by decide
theorem at_1x (nl : Bool) (x : Int) (c : Int) (hx : (x = 0 ∧ c = 49) ∨ (x = 1 ∧ c = 120)) (nid : Nat) : ACall Tryz.prog 60 [.agg [w1x nl,.str [49]],.agg [.int .i64 x,.int .i64 0]] [] nid (.int .u8 c) [] := by
 refine acall_run c60 (by simp [a60]) ?_
 unfold w1x
 rcases hx with ⟨rfl,rfl⟩ | ⟨rfl,rfl⟩
 ·simp -dsimp only [a60,aqT,aqU,aqN,aqP,↓seqK,↓blkK,↓loopK,step,stepBin,eqB,Nat.reduceBEq,Nat.reduceBeqDiff,Nat.add_assoc nid,Nat.reduceAdd,reduceCtorEq,↓reduceIte,Nat.reduceLeDiff,Nat.reduceBneDiff,Option.toList,← Int.ofNat_tmod,← Int.ofNat_tdiv,Nat.reduceLT,Int.cast_ofNat_Int,Int.reduceBEq,Int.reduceBNe,Int.reduceLT,Int.reduceLE,Int.reduceAdd,Int.reduceSub,Int.reduceMul,Int.reduceToNat,Int.reduceNeg,Int.reduceTMod,Int.reduceEq,not_false_eq_true,Int.reducePow,Int.reduceFDiv,Nat.reducePow,Nat.reduceSub,Nat.reduceMul,Nat.min_eq_left,Nat.reduceEqDiff,BEq.rfl,Int.tdiv_one,LN_succ]
  refine ⟨by unfold inI64; omega,CallX.pure (out_c _ _ _ _) ?_⟩
  simp -dsimp only [aqT,aqU,aqN,aqP,↓seqK,↓blkK,↓loopK,step,stepBin,eqB,Nat.reduceBEq,Nat.reduceBeqDiff,Nat.add_assoc nid,Nat.reduceAdd,reduceCtorEq,↓reduceIte,Nat.reduceLeDiff,Nat.reduceBneDiff,Option.toList,← Int.ofNat_tmod,← Int.ofNat_tdiv,Nat.reduceLT,Int.cast_ofNat_Int,Int.reduceBEq,Int.reduceBNe,Int.reduceLT,Int.reduceLE,Int.reduceAdd,Int.reduceSub,Int.reduceMul,Int.reduceToNat,Int.reduceNeg,Int.reduceTMod,Int.reduceEq,not_false_eq_true,Int.reducePow,Int.reduceFDiv,Nat.reducePow,Nat.reduceSub,Nat.reduceMul,Nat.min_eq_left,Nat.reduceEqDiff,BEq.rfl,Int.tdiv_one,LN_succ,out_00,List.getD_cons_zero]
  refine ⟨by unfold inI64; omega,CallX.pure (out_c _ _ _ _) ?_⟩
  simp -dsimp only [aqT,aqU,aqN,aqP,↓seqK,↓blkK,↓loopK,step,stepBin,eqB,Nat.reduceBEq,Nat.reduceBeqDiff,Nat.add_assoc nid,Nat.reduceAdd,reduceCtorEq,↓reduceIte,Nat.reduceLeDiff,Nat.reduceBneDiff,Option.toList,← Int.ofNat_tmod,← Int.ofNat_tdiv,Nat.reduceLT,Int.cast_ofNat_Int,Int.reduceBEq,Int.reduceBNe,Int.reduceLT,Int.reduceLE,Int.reduceAdd,Int.reduceSub,Int.reduceMul,Int.reduceToNat,Int.reduceNeg,Int.reduceTMod,Int.reduceEq,not_false_eq_true,Int.reducePow,Int.reduceFDiv,Nat.reducePow,Nat.reduceSub,Nat.reduceMul,Nat.min_eq_left,Nat.reduceEqDiff,BEq.rfl,Int.tdiv_one,LN_succ,out_01,List.getD_cons_zero]
  refine RetOK.pure (.inl rfl) rfl ?_
  simp [retPV,over,keys,List.map_nil,List.map_cons,List.contains_cons,List.contains_nil,Bool.or_false,Bool.or_true,Bool.true_or,Bool.false_or,beq_self_eq_true,cond_true,cond_false,HeapCov,orNil,nilSz,onBlk,srcOf,getH_hit,getH_miss,getH.eq_1,getS_hit,getS_miss,getS.eq_1,BlkCov,MEq,PVCovs,PVCov,ColsEq,AColsEq,ACEq,ColEq.refl,liveIds,SlotsCov,List.all_nil,List.all_cons,List.any_nil,List.any_cons,List.nil_append,List.cons_append,inRange,apart,nilBlk,idS1,idS2,readAll,readRes,onAll,step,res,AX.val,List.drop_zero,List.drop_succ_cons,List.take_succ_cons,List.take_zero]
 ·simp -dsimp only [a60,aqT,aqU,aqN,aqP,↓seqK,↓blkK,↓loopK,step,stepBin,eqB,Nat.reduceBEq,Nat.reduceBeqDiff,Nat.add_assoc nid,Nat.reduceAdd,reduceCtorEq,↓reduceIte,Nat.reduceLeDiff,Nat.reduceBneDiff,Option.toList,← Int.ofNat_tmod,← Int.ofNat_tdiv,Nat.reduceLT,Int.cast_ofNat_Int,Int.reduceBEq,Int.reduceBNe,Int.reduceLT,Int.reduceLE,Int.reduceAdd,Int.reduceSub,Int.reduceMul,Int.reduceToNat,Int.reduceNeg,Int.reduceTMod,Int.reduceEq,not_false_eq_true,Int.reducePow,Int.reduceFDiv,Nat.reducePow,Nat.reduceSub,Nat.reduceMul,Nat.min_eq_left,Nat.reduceEqDiff,BEq.rfl,Int.tdiv_one,LN_succ]
  refine ⟨by unfold inI64; omega,CallX.pure (out_c _ _ _ _) ?_⟩
  simp -dsimp only [aqT,aqU,aqN,aqP,↓seqK,↓blkK,↓loopK,step,stepBin,eqB,Nat.reduceBEq,Nat.reduceBeqDiff,Nat.add_assoc nid,Nat.reduceAdd,reduceCtorEq,↓reduceIte,Nat.reduceLeDiff,Nat.reduceBneDiff,Option.toList,← Int.ofNat_tmod,← Int.ofNat_tdiv,Nat.reduceLT,Int.cast_ofNat_Int,Int.reduceBEq,Int.reduceBNe,Int.reduceLT,Int.reduceLE,Int.reduceAdd,Int.reduceSub,Int.reduceMul,Int.reduceToNat,Int.reduceNeg,Int.reduceTMod,Int.reduceEq,not_false_eq_true,Int.reducePow,Int.reduceFDiv,Nat.reducePow,Nat.reduceSub,Nat.reduceMul,Nat.min_eq_left,Nat.reduceEqDiff,BEq.rfl,Int.tdiv_one,LN_succ,out_00,List.getD_cons_zero]
  refine ⟨by unfold inI64; omega,CallX.pure (out_c _ _ _ _) ?_⟩
  simp -dsimp only [aqT,aqU,aqN,aqP,↓seqK,↓blkK,↓loopK,step,stepBin,eqB,Nat.reduceBEq,Nat.reduceBeqDiff,Nat.add_assoc nid,Nat.reduceAdd,reduceCtorEq,↓reduceIte,Nat.reduceLeDiff,Nat.reduceBneDiff,Option.toList,← Int.ofNat_tmod,← Int.ofNat_tdiv,Nat.reduceLT,Int.cast_ofNat_Int,Int.reduceBEq,Int.reduceBNe,Int.reduceLT,Int.reduceLE,Int.reduceAdd,Int.reduceSub,Int.reduceMul,Int.reduceToNat,Int.reduceNeg,Int.reduceTMod,Int.reduceEq,not_false_eq_true,Int.reducePow,Int.reduceFDiv,Nat.reducePow,Nat.reduceSub,Nat.reduceMul,Nat.min_eq_left,Nat.reduceEqDiff,BEq.rfl,Int.tdiv_one,LN_succ,out_11,List.getD_cons_zero]
  refine RetOK.pure (.inl rfl) rfl ?_
  simp [retPV,over,keys,List.map_nil,List.map_cons,List.contains_cons,List.contains_nil,Bool.or_false,Bool.or_true,Bool.true_or,Bool.false_or,beq_self_eq_true,cond_true,cond_false,HeapCov,orNil,nilSz,onBlk,srcOf,getH_hit,getH_miss,getH.eq_1,getS_hit,getS_miss,getS.eq_1,BlkCov,MEq,PVCovs,PVCov,ColsEq,AColsEq,ACEq,ColEq.refl,liveIds,SlotsCov,List.all_nil,List.all_cons,List.any_nil,List.any_cons,List.nil_append,List.cons_append,inRange,apart,nilBlk,idS1,idS2,readAll,readRes,onAll,step,res,AX.val,List.drop_zero,List.drop_succ_cons,List.take_succ_cons,List.take_zero]
theorem places_c (nl : Bool) (nid : Nat) : ACall Tryz.prog 59 [.agg [w1x nl,.str [49]]] [] nid (.sl nid 0 2) [(nid,some (.arr 34 2 [.i .i64 fun i => [0,1].getD i 0,.i .i64 fun i => [0,0].getD i 0]))] := by
 refine acall_run c59 (by simp [a59]) ?_
 unfold w1x
 simp -dsimp only [a59,aqT,aqU,aqN,aqP,↓seqK,↓blkK,↓loopK,step,stepBin,eqB,Nat.reduceBEq,Nat.reduceBeqDiff,Nat.add_assoc nid,Nat.reduceAdd,reduceCtorEq,↓reduceIte,Nat.reduceLeDiff,Nat.reduceBneDiff,Option.toList,← Int.ofNat_tmod,← Int.ofNat_tdiv,Nat.reduceLT,Int.cast_ofNat_Int,Int.reduceBEq,Int.reduceBNe,Int.reduceLT,Int.reduceLE,Int.reduceAdd,Int.reduceSub,Int.reduceMul,Int.reduceToNat,Int.reduceNeg,Int.reduceTMod,Int.reduceEq,not_false_eq_true,Int.reducePow,Int.reduceFDiv,Nat.reducePow,Nat.reduceSub,Nat.reduceMul,Nat.min_eq_left,Nat.reduceEqDiff,BEq.rfl,Int.tdiv_one,LN_succ]
 refine LP.rounds 3 ?_
 simp -dsimp only [aqT,aqU,aqN,aqP,↓seqK,↓blkK,↓loopK,step,stepBin,eqB,Nat.reduceBEq,Nat.reduceBeqDiff,Nat.add_assoc nid,Nat.reduceAdd,reduceCtorEq,↓reduceIte,Nat.reduceLeDiff,Nat.reduceBneDiff,Option.toList,← Int.ofNat_tmod,← Int.ofNat_tdiv,Nat.reduceLT,Int.cast_ofNat_Int,Int.reduceBEq,Int.reduceBNe,Int.reduceLT,Int.reduceLE,Int.reduceAdd,Int.reduceSub,Int.reduceMul,Int.reduceToNat,Int.reduceNeg,Int.reduceTMod,Int.reduceEq,not_false_eq_true,Int.reducePow,Int.reduceFDiv,Nat.reducePow,Nat.reduceSub,Nat.reduceMul,Nat.min_eq_left,Nat.reduceEqDiff,BEq.rfl,Int.tdiv_one,LN_succ,List.getD_cons_zero]
 refine LP.rounds 4 ?_
 simp -dsimp only [aqT,aqU,aqN,aqP,↓seqK,↓blkK,↓loopK,step,stepBin,eqB,Nat.reduceBEq,Nat.reduceBeqDiff,Nat.add_assoc nid,Nat.reduceAdd,reduceCtorEq,↓reduceIte,Nat.reduceLeDiff,Nat.reduceBneDiff,Option.toList,← Int.ofNat_tmod,← Int.ofNat_tdiv,Nat.reduceLT,Int.cast_ofNat_Int,Int.reduceBEq,Int.reduceBNe,Int.reduceLT,Int.reduceLE,Int.reduceAdd,Int.reduceSub,Int.reduceMul,Int.reduceToNat,Int.reduceNeg,Int.reduceTMod,Int.reduceEq,not_false_eq_true,Int.reducePow,Int.reduceFDiv,Nat.reducePow,Nat.reduceSub,Nat.reduceMul,Nat.min_eq_left,Nat.reduceEqDiff,BEq.rfl,Int.tdiv_one,LN_succ,List.getD_cons_zero]
 refine ⟨by unfold inI64; omega,by unfold inI64; omega,by unfold inI64; omega,RetOK.go [(nid,nid + 144)] [] (.inl rfl) ?_⟩
 simp [a59,retPV,over,keys,List.map_nil,List.map_cons,List.contains_cons,List.contains_nil,Bool.or_false,Bool.or_true,Bool.true_or,Bool.false_or,beq_self_eq_true,cond_true,cond_false,HeapCov,orNil,nilSz,onBlk,srcOf,getH_hit,getH_miss,getH.eq_1,getS_hit,getS_miss,getS.eq_1,BlkCov,MEq,PVCovs,PVCov,ColsEq,AColsEq,ACEq,ColEq.refl,liveIds,SlotsCov,List.all_nil,List.all_cons,List.any_nil,List.any_cons,List.nil_append,List.cons_append,inRange,apart,nilBlk,idS1,idS2,readAll,readRes,onAll,step,res,AX.val,List.drop_zero,List.drop_succ_cons,List.take_succ_cons,List.take_zero]
 constructor <;> refine ColEq.i fun i hi => ?_ <;> (have : i = 0 ∨ i = 1 := by omega) <;> rcases this with rfl | rfl <;> simp
theorem share_c (nl nlp : Bool) (nid : Nat) : ACall Tryz.prog 102 [.agg [w1x nl,.str [49]],.lit nlp 2 [.i .i64 fun i => [0,1].getD i 0,.i .i64 fun i => [0,0].getD i 0]] [] nid (.tup [.int .i64 1,.int .i64 2]) [] := by
 refine acall_run c102 (by simp [a102]) ?_
 unfold w1x
 simp -dsimp only [a102,aqT,aqU,aqN,aqP,↓seqK,↓blkK,↓loopK,step,stepBin,eqB,Nat.reduceBEq,Nat.reduceBeqDiff,Nat.add_assoc nid,Nat.reduceAdd,reduceCtorEq,↓reduceIte,Nat.reduceLeDiff,Nat.reduceBneDiff,Option.toList,← Int.ofNat_tmod,← Int.ofNat_tdiv,Nat.reduceLT,Int.cast_ofNat_Int,Int.reduceBEq,Int.reduceBNe,Int.reduceLT,Int.reduceLE,Int.reduceAdd,Int.reduceSub,Int.reduceMul,Int.reduceToNat,Int.reduceNeg,Int.reduceTMod,Int.reduceEq,not_false_eq_true,Int.reducePow,Int.reduceFDiv,Nat.reducePow,Nat.reduceSub,Nat.reduceMul,Nat.min_eq_left,Nat.reduceEqDiff,BEq.rfl,Int.tdiv_one,LN_succ]
 refine LP.rounds 4 ?_
 simp -dsimp only [aqT,aqU,aqN,aqP,↓seqK,↓blkK,↓loopK,step,stepBin,eqB,Nat.reduceBEq,Nat.reduceBeqDiff,Nat.add_assoc nid,Nat.reduceAdd,reduceCtorEq,↓reduceIte,Nat.reduceLeDiff,Nat.reduceBneDiff,Option.toList,← Int.ofNat_tmod,← Int.ofNat_tdiv,Nat.reduceLT,Int.cast_ofNat_Int,Int.reduceBEq,Int.reduceBNe,Int.reduceLT,Int.reduceLE,Int.reduceAdd,Int.reduceSub,Int.reduceMul,Int.reduceToNat,Int.reduceNeg,Int.reduceTMod,Int.reduceEq,not_false_eq_true,Int.reducePow,Int.reduceFDiv,Nat.reducePow,Nat.reduceSub,Nat.reduceMul,Nat.min_eq_left,Nat.reduceEqDiff,BEq.rfl,Int.tdiv_one,LN_succ,List.getD_cons_zero,List.getD_cons_succ]
 refine CallO.pure (at_1x nl 0 49 (.inl ⟨rfl,rfl⟩) _) ?_
 simp -dsimp only [aqT,aqU,aqN,aqP,↓seqK,↓blkK,↓loopK,step,stepBin,eqB,Nat.reduceBEq,Nat.reduceBeqDiff,Nat.add_assoc nid,Nat.reduceAdd,reduceCtorEq,↓reduceIte,Nat.reduceLeDiff,Nat.reduceBneDiff,Option.toList,← Int.ofNat_tmod,← Int.ofNat_tdiv,Nat.reduceLT,Int.cast_ofNat_Int,Int.reduceBEq,Int.reduceBNe,Int.reduceLT,Int.reduceLE,Int.reduceAdd,Int.reduceSub,Int.reduceMul,Int.reduceToNat,Int.reduceNeg,Int.reduceTMod,Int.reduceEq,not_false_eq_true,Int.reducePow,Int.reduceFDiv,Nat.reducePow,Nat.reduceSub,Nat.reduceMul,Nat.min_eq_left,Nat.reduceEqDiff,BEq.rfl,Int.tdiv_one,LN_succ]
 refine CallO.pure (tested_c _ _) ?_
 rw [t49]
 simp -dsimp only [aqT,aqU,aqN,aqP,↓seqK,↓blkK,↓loopK,step,stepBin,eqB,Nat.reduceBEq,Nat.reduceBeqDiff,Nat.add_assoc nid,Nat.reduceAdd,reduceCtorEq,↓reduceIte,Nat.reduceLeDiff,Nat.reduceBneDiff,Option.toList,← Int.ofNat_tmod,← Int.ofNat_tdiv,Nat.reduceLT,Int.cast_ofNat_Int,Int.reduceBEq,Int.reduceBNe,Int.reduceLT,Int.reduceLE,Int.reduceAdd,Int.reduceSub,Int.reduceMul,Int.reduceToNat,Int.reduceNeg,Int.reduceTMod,Int.reduceEq,not_false_eq_true,Int.reducePow,Int.reduceFDiv,Nat.reducePow,Nat.reduceSub,Nat.reduceMul,Nat.min_eq_left,Nat.reduceEqDiff,BEq.rfl,Int.tdiv_one,LN_succ]
 refine ⟨by unfold inI64; omega,CallO.pure (passed_c _ _ _ _ _ _ _ rfl) ?_⟩
 rw [p49]
 simp -dsimp only [aqT,aqU,aqN,aqP,↓seqK,↓blkK,↓loopK,step,stepBin,eqB,Nat.reduceBEq,Nat.reduceBeqDiff,Nat.add_assoc nid,Nat.reduceAdd,reduceCtorEq,↓reduceIte,Nat.reduceLeDiff,Nat.reduceBneDiff,Option.toList,← Int.ofNat_tmod,← Int.ofNat_tdiv,Nat.reduceLT,Int.cast_ofNat_Int,Int.reduceBEq,Int.reduceBNe,Int.reduceLT,Int.reduceLE,Int.reduceAdd,Int.reduceSub,Int.reduceMul,Int.reduceToNat,Int.reduceNeg,Int.reduceTMod,Int.reduceEq,not_false_eq_true,Int.reducePow,Int.reduceFDiv,Nat.reducePow,Nat.reduceSub,Nat.reduceMul,Nat.min_eq_left,Nat.reduceEqDiff,BEq.rfl,Int.tdiv_one,LN_succ,List.getD_cons_zero,List.getD_cons_succ]
 refine ⟨by unfold inI64; omega,by unfold inI64; omega,CallO.pure (at_1x nl 1 120 (.inr ⟨rfl,rfl⟩) _) ?_⟩
 simp -dsimp only [aqT,aqU,aqN,aqP,↓seqK,↓blkK,↓loopK,step,stepBin,eqB,Nat.reduceBEq,Nat.reduceBeqDiff,Nat.add_assoc nid,Nat.reduceAdd,reduceCtorEq,↓reduceIte,Nat.reduceLeDiff,Nat.reduceBneDiff,Option.toList,← Int.ofNat_tmod,← Int.ofNat_tdiv,Nat.reduceLT,Int.cast_ofNat_Int,Int.reduceBEq,Int.reduceBNe,Int.reduceLT,Int.reduceLE,Int.reduceAdd,Int.reduceSub,Int.reduceMul,Int.reduceToNat,Int.reduceNeg,Int.reduceTMod,Int.reduceEq,not_false_eq_true,Int.reducePow,Int.reduceFDiv,Nat.reducePow,Nat.reduceSub,Nat.reduceMul,Nat.min_eq_left,Nat.reduceEqDiff,BEq.rfl,Int.tdiv_one,LN_succ]
 refine CallO.pure (tested_c _ _) ?_
 rw [t120]
 simp -dsimp only [aqT,aqU,aqN,aqP,↓seqK,↓blkK,↓loopK,step,stepBin,eqB,Nat.reduceBEq,Nat.reduceBeqDiff,Nat.add_assoc nid,Nat.reduceAdd,reduceCtorEq,↓reduceIte,Nat.reduceLeDiff,Nat.reduceBneDiff,Option.toList,← Int.ofNat_tmod,← Int.ofNat_tdiv,Nat.reduceLT,Int.cast_ofNat_Int,Int.reduceBEq,Int.reduceBNe,Int.reduceLT,Int.reduceLE,Int.reduceAdd,Int.reduceSub,Int.reduceMul,Int.reduceToNat,Int.reduceNeg,Int.reduceTMod,Int.reduceEq,not_false_eq_true,Int.reducePow,Int.reduceFDiv,Nat.reducePow,Nat.reduceSub,Nat.reduceMul,Nat.min_eq_left,Nat.reduceEqDiff,BEq.rfl,Int.tdiv_one,LN_succ]
 refine ⟨by unfold inI64; omega,CallO.pure (passed_c _ _ _ _ _ _ _ rfl) ?_⟩
 rw [p120]
 simp -dsimp only [aqT,aqU,aqN,aqP,↓seqK,↓blkK,↓loopK,step,stepBin,eqB,Nat.reduceBEq,Nat.reduceBeqDiff,Nat.add_assoc nid,Nat.reduceAdd,reduceCtorEq,↓reduceIte,Nat.reduceLeDiff,Nat.reduceBneDiff,Option.toList,← Int.ofNat_tmod,← Int.ofNat_tdiv,Nat.reduceLT,Int.cast_ofNat_Int,Int.reduceBEq,Int.reduceBNe,Int.reduceLT,Int.reduceLE,Int.reduceAdd,Int.reduceSub,Int.reduceMul,Int.reduceToNat,Int.reduceNeg,Int.reduceTMod,Int.reduceEq,not_false_eq_true,Int.reducePow,Int.reduceFDiv,Nat.reducePow,Nat.reduceSub,Nat.reduceMul,Nat.min_eq_left,Nat.reduceEqDiff,BEq.rfl,Int.tdiv_one,LN_succ,List.getD_cons_zero,List.getD_cons_succ]
 refine ⟨by unfold inI64; omega,RetOK.pure (.inl rfl) rfl ?_⟩
 simp [retPV,over,keys,List.map_nil,List.map_cons,List.contains_cons,List.contains_nil,Bool.or_false,Bool.or_true,Bool.true_or,Bool.false_or,beq_self_eq_true,cond_true,cond_false,HeapCov,orNil,nilSz,onBlk,srcOf,getH_hit,getH_miss,getH.eq_1,getS_hit,getS_miss,getS.eq_1,BlkCov,MEq,PVCovs,PVCov,ColsEq,AColsEq,ACEq,ColEq.refl,liveIds,SlotsCov,List.all_nil,List.all_cons,List.any_nil,List.any_cons,List.nil_append,List.cons_append,inRange,apart,nilBlk,idS1,idS2,readAll,readRes,onAll,step,res,AX.val,List.drop_zero,List.drop_succ_cons,List.take_succ_cons,List.take_zero]
theorem checkWafer_c (nl : Bool) (nid : Nat) : ACall Tryz.prog 32 [.agg [w1x nl,.str [49]]] [] nid (.int .i64 0) [] := by
 refine acall_run c32 (by simp [a32]) ?_
 unfold w1x
 simp -dsimp only [a32,aqT,aqU,aqN,aqP,↓seqK,↓blkK,↓loopK,step,stepBin,eqB,Nat.reduceBEq,Nat.reduceBeqDiff,Nat.add_assoc nid,Nat.reduceAdd,reduceCtorEq,↓reduceIte,Nat.reduceLeDiff,Nat.reduceBneDiff,Option.toList,← Int.ofNat_tmod,← Int.ofNat_tdiv,Nat.reduceLT,Int.cast_ofNat_Int,Int.reduceBEq,Int.reduceBNe,Int.reduceLT,Int.reduceLE,Int.reduceAdd,Int.reduceSub,Int.reduceMul,Int.reduceToNat,Int.reduceNeg,Int.reduceTMod,Int.reduceEq,not_false_eq_true,Int.reducePow,Int.reduceFDiv,Nat.reducePow,Nat.reduceSub,Nat.reduceMul,Nat.min_eq_left,Nat.reduceEqDiff,BEq.rfl,Int.tdiv_one,LN_succ]
 refine LP.rounds 3 ?_
 simp -dsimp only [aqT,aqU,aqN,aqP,↓seqK,↓blkK,↓loopK,step,stepBin,eqB,Nat.reduceBEq,Nat.reduceBeqDiff,Nat.add_assoc nid,Nat.reduceAdd,reduceCtorEq,↓reduceIte,Nat.reduceLeDiff,Nat.reduceBneDiff,Option.toList,← Int.ofNat_tmod,← Int.ofNat_tdiv,Nat.reduceLT,Int.cast_ofNat_Int,Int.reduceBEq,Int.reduceBNe,Int.reduceLT,Int.reduceLE,Int.reduceAdd,Int.reduceSub,Int.reduceMul,Int.reduceToNat,Int.reduceNeg,Int.reduceTMod,Int.reduceEq,not_false_eq_true,Int.reducePow,Int.reduceFDiv,Nat.reducePow,Nat.reduceSub,Nat.reduceMul,Nat.min_eq_left,Nat.reduceEqDiff,BEq.rfl,Int.tdiv_one,LN_succ,List.getD_cons_zero,List.getD_cons_succ,s1x]
 refine CallO.pure (odd_c' [49,120] _ (by simp) (fun i hi => by
  have : i = 0 ∨ i = 1 := by simp at hi; omega
  rcases this with rfl | rfl <;> decide)) ?_
 simp -dsimp only [aqT,aqU,aqN,aqP,↓seqK,↓blkK,↓loopK,step,stepBin,eqB,Nat.reduceBEq,Nat.reduceBeqDiff,Nat.add_assoc nid,Nat.reduceAdd,reduceCtorEq,↓reduceIte,Nat.reduceLeDiff,Nat.reduceBneDiff,Option.toList,← Int.ofNat_tmod,← Int.ofNat_tdiv,Nat.reduceLT,Int.cast_ofNat_Int,Int.reduceBEq,Int.reduceBNe,Int.reduceLT,Int.reduceLE,Int.reduceAdd,Int.reduceSub,Int.reduceMul,Int.reduceToNat,Int.reduceNeg,Int.reduceTMod,Int.reduceEq,not_false_eq_true,Int.reducePow,Int.reduceFDiv,Nat.reducePow,Nat.reduceSub,Nat.reduceMul,Nat.min_eq_left,Nat.reduceEqDiff,BEq.rfl,Int.tdiv_one,LN_succ,List.getD_cons_zero,List.getD_cons_succ,s1x]
 refine ⟨by unfold inI64; omega,LP.rounds 3 ?_⟩
 simp -dsimp only [aqT,aqU,aqN,aqP,↓seqK,↓blkK,↓loopK,step,stepBin,eqB,Nat.reduceBEq,Nat.reduceBeqDiff,Nat.add_assoc nid,Nat.reduceAdd,reduceCtorEq,↓reduceIte,Nat.reduceLeDiff,Nat.reduceBneDiff,Option.toList,← Int.ofNat_tmod,← Int.ofNat_tdiv,Nat.reduceLT,Int.cast_ofNat_Int,Int.reduceBEq,Int.reduceBNe,Int.reduceLT,Int.reduceLE,Int.reduceAdd,Int.reduceSub,Int.reduceMul,Int.reduceToNat,Int.reduceNeg,Int.reduceTMod,Int.reduceEq,not_false_eq_true,Int.reducePow,Int.reduceFDiv,Nat.reducePow,Nat.reduceSub,Nat.reduceMul,Nat.min_eq_left,Nat.reduceEqDiff,BEq.rfl,Int.tdiv_one,LN_succ,List.getD_cons_zero,List.getD_cons_succ,s1x]
 refine CallO.pure (isBin_c _ _) ?_
 have b49 : isBinV ((UInt8.toNat 49 : Nat) : Int) = true := by decide
 rw [b49]
 simp -dsimp only [aqT,aqU,aqN,aqP,↓seqK,↓blkK,↓loopK,step,stepBin,eqB,Nat.reduceBEq,Nat.reduceBeqDiff,Nat.add_assoc nid,Nat.reduceAdd,reduceCtorEq,↓reduceIte,Nat.reduceLeDiff,Nat.reduceBneDiff,Option.toList,← Int.ofNat_tmod,← Int.ofNat_tdiv,Nat.reduceLT,Int.cast_ofNat_Int,Int.reduceBEq,Int.reduceBNe,Int.reduceLT,Int.reduceLE,Int.reduceAdd,Int.reduceSub,Int.reduceMul,Int.reduceToNat,Int.reduceNeg,Int.reduceTMod,Int.reduceEq,not_false_eq_true,Int.reducePow,Int.reduceFDiv,Nat.reducePow,Nat.reduceSub,Nat.reduceMul,Nat.min_eq_left,Nat.reduceEqDiff,BEq.rfl,Int.tdiv_one,LN_succ,List.getD_cons_zero,List.getD_cons_succ,s1x]
 refine ⟨by unfold inI64; omega,RetOK.pure (.inl rfl) rfl ?_⟩
 simp [retPV,over,keys,List.map_nil,List.map_cons,List.contains_cons,List.contains_nil,Bool.or_false,Bool.or_true,Bool.true_or,Bool.false_or,beq_self_eq_true,cond_true,cond_false,HeapCov,orNil,nilSz,onBlk,srcOf,getH_hit,getH_miss,getH.eq_1,getS_hit,getS_miss,getS.eq_1,BlkCov,MEq,PVCovs,PVCov,ColsEq,AColsEq,ACEq,ColEq.refl,liveIds,SlotsCov,List.all_nil,List.all_cons,List.any_nil,List.any_cons,List.nil_append,List.cons_append,inRange,apart,nilBlk,idS1,idS2,readAll,readRes,onAll,step,res,AX.val,List.drop_zero,List.drop_succ_cons,List.take_succ_cons,List.take_zero]
theorem yield_c (nl : Bool) (nid : Nat) : ACall Tryz.prog 34 [.agg [w1x nl,.str [49]]] [] nid (.tup [.agg [.int .i64 1,.int .i64 2],.bool true,.int .i64 0]) [] := by
 refine acall_run c34 (by simp [a34]) ?_
 unfold w1x
 simp -dsimp only [a34,aqT,aqU,aqN,aqP,↓seqK,↓blkK,↓loopK,step,stepBin,eqB,Nat.reduceBEq,Nat.reduceBeqDiff,Nat.add_assoc nid,Nat.reduceAdd,reduceCtorEq,↓reduceIte,Nat.reduceLeDiff,Nat.reduceBneDiff,Option.toList,← Int.ofNat_tmod,← Int.ofNat_tdiv,Nat.reduceLT,Int.cast_ofNat_Int,Int.reduceBEq,Int.reduceBNe,Int.reduceLT,Int.reduceLE,Int.reduceAdd,Int.reduceSub,Int.reduceMul,Int.reduceToNat,Int.reduceNeg,Int.reduceTMod,Int.reduceEq,not_false_eq_true,Int.reducePow,Int.reduceFDiv,Nat.reducePow,Nat.reduceSub,Nat.reduceMul,Nat.min_eq_left,Nat.reduceEqDiff,BEq.rfl,Int.tdiv_one,LN_succ]
 refine CallO.pure (checkWafer_c nl _) ?_
 simp -dsimp only [aqT,aqU,aqN,aqP,↓seqK,↓blkK,↓loopK,step,stepBin,eqB,Nat.reduceBEq,Nat.reduceBeqDiff,Nat.add_assoc nid,Nat.reduceAdd,reduceCtorEq,↓reduceIte,Nat.reduceLeDiff,Nat.reduceBneDiff,Option.toList,← Int.ofNat_tmod,← Int.ofNat_tdiv,Nat.reduceLT,Int.cast_ofNat_Int,Int.reduceBEq,Int.reduceBNe,Int.reduceLT,Int.reduceLE,Int.reduceAdd,Int.reduceSub,Int.reduceMul,Int.reduceToNat,Int.reduceNeg,Int.reduceTMod,Int.reduceEq,not_false_eq_true,Int.reducePow,Int.reduceFDiv,Nat.reducePow,Nat.reduceSub,Nat.reduceMul,Nat.min_eq_left,Nat.reduceEqDiff,BEq.rfl,Int.tdiv_one,LN_succ]
 refine CallX.pure (places_c nl _) ?_
 simp -dsimp only [aqT,aqU,aqN,aqP,↓seqK,↓blkK,↓loopK,step,stepBin,eqB,Nat.reduceBEq,Nat.reduceBeqDiff,Nat.add_assoc nid,Nat.reduceAdd,reduceCtorEq,↓reduceIte,Nat.reduceLeDiff,Nat.reduceBneDiff,Option.toList,← Int.ofNat_tmod,← Int.ofNat_tdiv,Nat.reduceLT,Int.cast_ofNat_Int,Int.reduceBEq,Int.reduceBNe,Int.reduceLT,Int.reduceLE,Int.reduceAdd,Int.reduceSub,Int.reduceMul,Int.reduceToNat,Int.reduceNeg,Int.reduceTMod,Int.reduceEq,not_false_eq_true,Int.reducePow,Int.reduceFDiv,Nat.reducePow,Nat.reduceSub,Nat.reduceMul,Nat.min_eq_left,Nat.reduceEqDiff,BEq.rfl,Int.tdiv_one,LN_succ]
 refine CallX.gave [nid + 44] (fun nl' => by
  simp only [lends,lend,aqT,aqU,aqN,aqP,↓seqK,↓blkK,↓loopK,step,stepBin,eqB,Nat.reduceBEq,Nat.reduceBeqDiff,Nat.add_assoc nid,Nat.reduceAdd,reduceCtorEq,↓reduceIte,Nat.reduceLeDiff,Nat.reduceBneDiff,Option.toList,← Int.ofNat_tmod,← Int.ofNat_tdiv,Nat.reduceLT]
  exact share_c nl (nl' _) _) (by simp [getH]) ?_
 simp -dsimp only [aqT,aqU,aqN,aqP,↓seqK,↓blkK,↓loopK,step,stepBin,eqB,Nat.reduceBEq,Nat.reduceBeqDiff,Nat.add_assoc nid,Nat.reduceAdd,reduceCtorEq,↓reduceIte,Nat.reduceLeDiff,Nat.reduceBneDiff,Option.toList,← Int.ofNat_tmod,← Int.ofNat_tdiv,Nat.reduceLT,Int.cast_ofNat_Int,Int.reduceBEq,Int.reduceBNe,Int.reduceLT,Int.reduceLE,Int.reduceAdd,Int.reduceSub,Int.reduceMul,Int.reduceToNat,Int.reduceNeg,Int.reduceTMod,Int.reduceEq,not_false_eq_true,Int.reducePow,Int.reduceFDiv,Nat.reducePow,Nat.reduceSub,Nat.reduceMul,Nat.min_eq_left,Nat.reduceEqDiff,BEq.rfl,Int.tdiv_one,LN_succ,kill]
 refine CallO.pure (frac12_c _) ?_
 simp -dsimp only [aqT,aqU,aqN,aqP,↓seqK,↓blkK,↓loopK,step,stepBin,eqB,Nat.reduceBEq,Nat.reduceBeqDiff,Nat.add_assoc nid,Nat.reduceAdd,reduceCtorEq,↓reduceIte,Nat.reduceLeDiff,Nat.reduceBneDiff,Option.toList,← Int.ofNat_tmod,← Int.ofNat_tdiv,Nat.reduceLT,Int.cast_ofNat_Int,Int.reduceBEq,Int.reduceBNe,Int.reduceLT,Int.reduceLE,Int.reduceAdd,Int.reduceSub,Int.reduceMul,Int.reduceToNat,Int.reduceNeg,Int.reduceTMod,Int.reduceEq,not_false_eq_true,Int.reducePow,Int.reduceFDiv,Nat.reducePow,Nat.reduceSub,Nat.reduceMul,Nat.min_eq_left,Nat.reduceEqDiff,BEq.rfl,Int.tdiv_one,LN_succ]
 refine RetOK.go [] [] (.inl rfl) ?_
 simp [a34,retPV,over,keys,List.map_nil,List.map_cons,List.contains_cons,List.contains_nil,Bool.or_false,Bool.or_true,Bool.true_or,Bool.false_or,beq_self_eq_true,cond_true,cond_false,HeapCov,orNil,nilSz,onBlk,srcOf,getH_hit,getH_miss,getH.eq_1,getS_hit,getS_miss,getS.eq_1,BlkCov,MEq,PVCovs,PVCov,ColsEq,AColsEq,ACEq,ColEq.refl,liveIds,SlotsCov,List.all_nil,List.all_cons,List.any_nil,List.any_cons,List.nil_append,List.cons_append,inRange,apart,nilBlk,idS1,idS2,readAll,readRes,onAll,step,res,AX.val,List.drop_zero,List.drop_succ_cons,List.take_succ_cons,List.take_zero]
end Go.Proofs.YtmgfcjblclanmaaGreatDoor
namespace Go.Proofs.YtmgfcjblclanmaaGreatDoor
open Go.RowKit
theorem probed_c (nid : Nat) : ACall Tryz.prog 18 [] [] nid (.bool true) [] := by
 refine acall_run c18 (by simp [a18]) ?_
 simp -dsimp only [aqA,↓seqK,↓blkK,↓loopK,step,stepBin,eqB,Nat.add_assoc nid,↓reduceIte,simprocAttr,a18]
 refine CallO.gave [nid + 4] (fun nl' => by
  simp only [lends,lend,aqA,↓seqK,↓blkK,↓loopK,step,stepBin,eqB,Nat.add_assoc nid,↓reduceIte,simprocAttr]
  exact yield_c (nl' _) _) (by simp [getH]) ?_
 simp -dsimp only [aqA,↓seqK,↓blkK,↓loopK,step,stepBin,eqB,Nat.add_assoc nid,↓reduceIte,simprocAttr,LN_succ,kill]
 refine RetOK.pure (.inl rfl) rfl ?_
 simp [cvT,step,res]
end Go.Proofs.YtmgfcjblclanmaaGreatDoor
namespace Go.Proofs.YtmgfcjblclanmaaGreatDoor
open Go.RowKit
structure AtB (a : Pt) : Prop where
 x : -60 ≤ a.1 ∧ a.1 ≤ 60
 y : -60 ≤ a.2 ∧ a.2 ≤ 60
theorem at_x (i : Nat) : -60 ≤ ([0,1,-1,59,-60].getD i 0 : Int) ∧ ([0,1,-1,59,-60].getD i 0 : Int) ≤ 60 := by
 rcases i with _ | _ | _ | _ | _ | i <;> simp
theorem at_y (i : Nat) : -60 ≤ ([0,0,1,-59,60].getD i 0 : Int) ∧ ([0,0,1,-59,60].getD i 0 : Int) ≤ 60 := by
 rcases i with _ | _ | _ | _ | _ | i <;> simp
def boxA (a : Pt) : Option ABlk := some (.box 34 [.int .i64 a.1,.int .i64 a.2])
theorem join_short {W : Waf} (h : WafSmall W) : (Lib.join W.rows []).length < 100 := by
 rw [join_flat,List.length_flatten]
 have key : ∀ l : List (List UInt8),(∀ r ∈ l,r.length ≤ 7) → (l.map List.length).sum ≤ 7 * l.length := by
  intro l
  induction l with
  | nil => simp
  | cons r l ih =>
   intro hr
   have h1 := hr r List.mem_cons_self
   have h2 := ih fun x hx => hr x (List.mem_cons_of_mem _ hx)
   simp only [List.map_cons,List.sum_cons,List.length_cons]
   omega
 have h1 := key W.rows h.row
 have h2 := h.len
 omega
theorem op_smallW {W : Waf} (h : WafSmall W) (hW : WafOk W) : (opV W).length ≤ 99 := by
 have h1 := cnt_unt hW
 have h2 := countByte_le (Lib.join W.rows []) 63
 have h3 := join_short h
 omega
theorem goN_len {l : List Nat} : ∀ (f s : Nat) (is : List Nat),goN l f s = some is → is.length ≤ f
 | 0,s,is,h => by
  unfold goN at h
  injection h with h
  subst h
  simp
 | f + 1,s,is,h => by
  unfold goN at h
  split at h
  ·injection h with h
   subst h
   simp
  ·split at h
   ·cases h
   ·rename_i i hi
    cases hg : goN l f (andN s (l.getD i 0)) with
    | none => rw [hg] at h; cases h
    | some js =>
     rw [hg] at h
     injection h with h
     subst h
     have := goN_len f _ js hg
     simp only [List.length_cons]
     omega
theorem fewOut_len {W : Waf} {card : List Pt} (hK : (opV W).length ≤ 14) : (fewOut W card).length ≤ 16384 := by
 have hM : 2 ^ (opV W).length ≤ 2 ^ 14 := Nat.pow_le_pow_right (by omega) hK
 unfold fewOut outP
 rw [List.length_map]
 cases h : fewGo W card with
 | none => simp
 | some is =>
  have := goN_len _ _ is h
  simp only [Option.getD_some]
  omega
set_option maxHeartbeats 16000000 in
theorem diesTouched_c (nl : Bool) (A : List Int) (nid : Nat) (hA : A.length ≤ 17592186044416) : ACall Tryz.prog 3 [litI nl A] [] nid (.bool true) [] := by
  refine acall_sr c3 (by simp [a3]) ?_
  unfold a3 litI
  refine SR.seq ?_
  simp -dsimp only [aqA,↓seqK,↓blkK,↓loopK,step,stepBin,eqB,Nat.add_assoc nid,↓reduceIte,simprocAttr,LN_succ]
  refine SR.seq ?_
  simp -dsimp only [aqA,↓seqK,↓blkK,↓loopK,step,stepBin,eqB,Nat.add_assoc nid,↓reduceIte,simprocAttr,LN_succ]
  refine SR.seqEx (ι := {x : Waf × List Pt × Pt × Nat // FewW x.1 ∧ x.2.1.length ≤ 4 ∧ AtB x.2.2.1 ∧ x.2.2.2 ≤ 1000}) (fun x => ⟨[(3,.ptr (nid + 12) 0),(4,.ptr (nid + 4) 0),(5,.sl (nid + 16) 0 x.1.2.1.length),(6,.ptr (nid + 20) 0)],[(nid + 12,strmC nl A x.1.2.2.2),(nid + 4,some (.box 28 [.sl (nid + 8) 0 x.1.1.rows.length,.str x.1.1.pass])),(nid + 8,arrS x.1.1.rows),(nid + 16,arrPl x.1.2.1),(nid + 20,boxA x.1.2.2.1)],nid + 400,nid⟩) ?_ (fun ⟨⟨W0,card,a,q⟩,hF,hcl,ha,hq⟩ => ?_)
  · simp -dsimp only [aqA,↓seqK,↓blkK,↓loopK,step,stepBin,eqB,Nat.add_assoc nid,↓reduceIte,simprocAttr,LN_succ]
    refine CallO.onE (fewX (nid + 12) _ nl A 0 (by omega) (by omega) hA) (subH_get (by simp only [aqA,↓seqK,↓blkK,↓loopK,step,stepBin,eqB,Nat.add_assoc nid,↓reduceIte,simprocAttr,LN_succ,strmC])) (fun x hx => ?_)
    obtain ⟨hx1,hx2⟩ := hx
    unfold arrS
    simp -dsimp only [aqA,↓seqK,↓blkK,↓loopK,step,stepBin,eqB,Nat.add_assoc nid,↓reduceIte,simprocAttr,LN_succ]
    refine CallO.any (cardX (nid + 12) _ nl A x.2 (by omega) (by omega) hA) (subH_get (by simp only [aqA,↓seqK,↓blkK,↓loopK,step,stepBin,eqB,Nat.add_assoc nid,↓reduceIte,simprocAttr,LN_succ,strmC])) (fun y hy => ?_)
    obtain ⟨hy1,hy2⟩ := hy
    unfold arrPl
    simp -dsimp only [aqA,↓seqK,↓blkK,↓loopK,step,stepBin,eqB,Nat.add_assoc nid,↓reduceIte,simprocAttr,LN_succ]
    refine CallO.pick_go (T := 3) (nl := nl) (A := A) (p := y.2) (g := fun i => [0,1,-1,59,-60].getD i 0) (by simp only [aqA,↓seqK,↓blkK,↓loopK,step,stepBin,eqB,Nat.add_assoc nid,↓reduceIte,simprocAttr,LN_succ]) (by simp only [aqA,↓seqK,↓blkK,↓loopK,step,stepBin,eqB,Nat.add_assoc nid,↓reduceIte,simprocAttr,LN_succ]) (by simp only [aqA,↓seqK,↓blkK,↓loopK,step,stepBin,eqB,Nat.add_assoc nid,↓reduceIte,simprocAttr,LN_succ]) (by omega) (by omega) hA (by omega) (by omega) ?_
    have h1 := at_x (pickI A y.2 5)
    generalize [0,1,-1,59,-60].getD (pickI A y.2 5) (0 : Int) = a1 at *
    simp -dsimp only [aqA,↓seqK,↓blkK,↓loopK,step,stepBin,eqB,Nat.add_assoc nid,↓reduceIte,simprocAttr,LN_succ]
    refine CallO.pick_go (T := 3) (nl := nl) (A := A) (p := y.2 + 1) (g := fun i => [0,0,1,-59,60].getD i 0) (by simp only [aqA,↓seqK,↓blkK,↓loopK,step,stepBin,eqB,Nat.add_assoc nid,↓reduceIte,simprocAttr,LN_succ]) (by simp only [aqA,↓seqK,↓blkK,↓loopK,step,stepBin,eqB,Nat.add_assoc nid,↓reduceIte,simprocAttr,LN_succ]) (by simp only [aqA,↓seqK,↓blkK,↓loopK,step,stepBin,eqB,Nat.add_assoc nid,↓reduceIte,simprocAttr,LN_succ]) (by omega) (by omega) hA (by omega) (by omega) ?_
    have h2 := at_y (pickI A (y.2 + 1) 5)
    generalize [0,0,1,-59,60].getD (pickI A (y.2 + 1) 5) (0 : Int) = a2 at *
    simp -dsimp only [aqA,↓seqK,↓blkK,↓loopK,step,stepBin,eqB,Nat.add_assoc nid,↓reduceIte,simprocAttr,LN_succ]
    refine ⟨⟨(x.1,y.1,(a1,a2),y.2 + 1 + 1),hx1,hy1.len,⟨h1,h2⟩,by simp only; omega⟩,Cov.go [(nid + 4,nid + 64),(nid + 8,nid + 24),(nid + 16,nid + 32),(nid + 20,nid + 68)] [] ?_⟩
    simp [cvT,step,res,arrS,arrPl,boxA,strmC,-List.getD_eq_getElem?_getD]
  simp only at hF hcl ha hq
  refine SR.seqEx (ι := {W : Waf // WafSmall W}) (fun W => ⟨[(4,.ptr (nid + 4) 0),(5,.sl (nid + 16) 0 card.length),(6,.ptr (nid + 20) 0)],[(nid + 4,some (.box 28 [.sl (nid + 8) 0 W.1.rows.length,.str W.1.pass])),(nid + 8,arrS W.1.rows),(nid + 16,arrPl card),(nid + 20,boxA a)],nid + 800,nid⟩) ?_ (fun ⟨W,hWs⟩ => ?_)
  · unfold arrS arrPl boxA
    simp -dsimp only [aqA,↓seqK,↓blkK,↓loopK,step,stepBin,eqB,Nat.add_assoc nid,↓reduceIte,simprocAttr,LN_succ]
    refine CallO.on (flip_c (nid + 12) _ nl A q 4 (by omega) (by omega) hA (by omega)) (subH_get (by simp only [aqA,↓seqK,↓blkK,↓loopK,step,stepBin,eqB,Nat.add_assoc nid,↓reduceIte,simprocAttr,LN_succ,strmC])) ?_
    simp -dsimp only [aqA,↓seqK,↓blkK,↓loopK,step,stepBin,eqB,Nat.add_assoc nid,↓reduceIte,simprocAttr,LN_succ]
    refine S2.intro (fun h => ?_) (fun h => ?_) <;> simp -dsimp only [aqA,↓seqK,↓blkK,↓loopK,step,stepBin,eqB,Nat.add_assoc nid,↓reduceIte,simprocAttr,LN_succ]
    · refine CallO.onE (waferOfX (nid + 12) _ nl A (q + 1) (by omega) (by omega) hA) (subH_get (by simp only [aqA,↓seqK,↓blkK,↓loopK,step,stepBin,eqB,Nat.add_assoc nid,↓reduceIte,simprocAttr,LN_succ,strmC])) (fun x hx => ?_)
      obtain ⟨hx1,hx2⟩ := hx
      unfold arrS
      simp -dsimp only [aqA,↓seqK,↓blkK,↓loopK,step,stepBin,eqB,Nat.add_assoc nid,↓reduceIte,simprocAttr,LN_succ]
      refine ⟨⟨x.1,hx1⟩,Cov.go [(nid + 8,nid + 412)] [] ?_⟩
      simp [cvT,step,res,arrS,arrPl,boxA,strmC,-List.getD_eq_getElem?_getD]
    · refine ⟨⟨W0,hF.small⟩,Cov.go [] [] ?_⟩
      simp [cvT,step,res,arrS,arrPl,boxA,strmC,-List.getD_eq_getElem?_getD]
  have hbd := hWs.bd
  have hpl : W.pass.length ≤ 1000000 := by have := hWs.pass; omega
  unfold arrS arrPl boxA
  refine SR.freezeB [nid + 8,nid + 16] (fun nl' => ?_)
  simp only [frzS,frzH,frzBlk,lends,lend,kill,aqA,↓seqK,↓blkK,↓loopK,step,stepBin,eqB,Nat.add_assoc nid,↓reduceIte,simprocAttr,LN_succ]
  generalize nl' (nid + 8) = nw
  generalize nl' (nid + 16) = nc
  have hcf := fun k => cardFaultR_all nc card k (by omega)
  have hcc := fun k => checkCard_all nc card k (by omega)
  have hwf := fun k => waferFault_all nw W k hbd
  have hps := probed_c
  unfold litPl at hcf hcc
  unfold wafP at hwf
  refine SR.seqTo ⟨[(4,.ptr (nid + 4) 0),(5,litPl nc card),(6,.ptr (nid + 20) 0)],[(nid + 4,boxW nw W),(nid + 20,boxA a)],nid + 900,nid⟩ ?_ ?_
  · simp -dsimp only [aqA,↓seqK,↓blkK,↓loopK,step,stepBin,eqB,Nat.add_assoc nid,↓reduceIte,simprocAttr,LN_succ]
    refine CallO.pure (hcc _) ?_
    simp -dsimp only [aqA,↓seqK,↓blkK,↓loopK,step,stepBin,eqB,Nat.add_assoc nid,↓reduceIte,simprocAttr,LN_succ]
    refine CallO.pure (hcf _) ?_
    have b1 : (cardV card != cardV card) = false := by simp
    simp -dsimp only [aqA,↓seqK,↓blkK,↓loopK,step,stepBin,eqB,Nat.add_assoc nid,↓reduceIte,simprocAttr,LN_succ,b1]
    refine Cov.go [] [] ?_
    simp [cvT,step,res,boxW,litPl,boxA,-List.getD_eq_getElem?_getD]
  have hor : firstBad (fun x : Int => x) [waferV W,cardV card] = cfV W card := by
    rw [firstBad2]
    unfold cfV
    by_cases h : waferV W = 0
    · simp [h]
    · simp [h]
  have horc := fun nl' k => orE_c nl' [waferV W,cardV card] k (by simp)
  rw [hor] at horc
  unfold litI at horc
  refine SR.seqTo ⟨[(7,.int .i64 (cfV W card)),(4,.ptr (nid + 4) 0),(5,litPl nc card),(6,.ptr (nid + 20) 0)],[(nid + 4,boxW nw W),(nid + 20,boxA a)],nid + 1000,nid⟩ ?_ ?_
  · unfold boxW litPl boxA
    simp -dsimp only [aqA,↓seqK,↓blkK,↓loopK,step,stepBin,eqB,Nat.add_assoc nid,↓reduceIte,simprocAttr,LN_succ]
    refine CallO.pure (hwf _) ?_
    simp -dsimp only [aqA,↓seqK,↓blkK,↓loopK,step,stepBin,eqB,Nat.add_assoc nid,↓reduceIte,simprocAttr,LN_succ]
    refine CallO.pure (hcf _) ?_
    simp -dsimp only [aqA,↓seqK,↓blkK,↓loopK,step,stepBin,eqB,Nat.add_assoc nid,↓reduceIte,simprocAttr,LN_succ]
    refine CallO.lent [nid + 916] (fun nl' => by
      simp only [lends,lend,noOs,aqA,↓seqK,↓blkK,↓loopK,step,stepBin,eqB,Nat.add_assoc nid,↓reduceIte,simprocAttr,LN_succ]
      exact horc _ _) rfl rfl (by simp [getH]) ?_
    simp -dsimp only [aqA,↓seqK,↓blkK,↓loopK,step,stepBin,eqB,Nat.add_assoc nid,↓reduceIte,simprocAttr,LN_succ]
    refine Cov.go [] [] ?_
    simp [cvT,step,res,-List.getD_eq_getElem?_getD]
  clear horc hor hcc hcf hwf
  by_cases hcv : cfV W card = 0
  · have hv : waferV W = 0 := by
      unfold cfV at hcv
      by_cases h : waferV W = 0
      · exact h
      · rw [if_neg h] at hcv; exact absurd hcv h
    have hc0 : cardV card = 0 := by unfold cfV at hcv; rw [if_pos hv] at hcv; exact hcv
    have hok := waferV_ok hv
    obtain ⟨c1,c2,c3,c4⟩ := cardZ_right hc0
    have c5 := cardZ_nodup c3
    have hK := op_smallW hWs hok
    have hcz : card ≠ [] := List.length_pos_iff.1 c1
    have hc100 : ∀ p ∈ card,p.1 ≤ 100 ∧ -100 ≤ p.1 ∧ p.2 ≤ 100 ∧ -100 ≤ p.2 := fun p hp => by have := c4 p hp; omega
    have haP : PtBd a := by have h1 := ha.x; have h2 := ha.y; unfold PtBd; omega
    have hra := fun k => rows_all nw nc W card k hbd hok hcv c1 (by omega) c5 hc100
    have hro := fun k => rowsOf_all nw nc W card k hok c1 (by omega) (Nat.le_trans (Nat.mul_le_mul hK c2) (by omega)) c5 hc100
    have hrw : (rowsD W card).2 = (rowsV W card).2 := rowsD_same W card
    have hrl : (rowsV W card).2.1.length ≤ 1000000 := by
      have h1 := (rdTo_len (W := W) (card := card) _ (Nat.le_refl _)).2.1
      rw [rdTo_all,hrw] at h1
      omega
    rw [hrw] at hro
    have hct := fun k => countsOf_c nw W k (by have := hWs.len; omega) (join_short hWs)
    rw [cnt_unt hok] at hct
    obtain ⟨T,D,idle,e1,hDT,hDl,hTl,hdf,hm⟩ : ∃ (T D : List Pt) (idle e1 : Int),D.take T.length = T ∧ T.length ≤ D.length ∧ T.length ≤ 1000000 ∧ (∀ k,ACall Tryz.prog 19 [.agg [.int .i64 a.1,.int .i64 a.2]] [] k (.int .i64 e1) []) ∧
        ((e1 = 1 ∧ T = [] ∧ D = [] ∧ idle = 0 ∧ ∀ k,ACall Tryz.prog 15 [wafP nw W,litPl nc card,.agg [.int .i64 a.1,.int .i64 a.2]] [] k (.tup [.lit true 0 [],.int .i64 0,.int .i64 1]) []) ∨
         (e1 = 0 ∧ (∀ k,ACall Tryz.prog 15 [wafP nw W,litPl nc card,.agg [.int .i64 a.1,.int .i64 a.2]] [] k (.tup [.sl k 0 T.length,.int .i64 idle,.int .i64 0]) [(k,arrPl D)]) ∧ (∀ k,ACall Tryz.prog 20 [wafP nw W,litPl nc card,.agg [.int .i64 a.1,.int .i64 a.2]] [] k (.tup [.sl k 0 T.length,.int .i64 idle]) [(k,arrPl T)]))) := by
      have hdf := fun k => downFault_c a k
      by_cases ho : outB a.1 (-59) 59 = true ∨ outB a.2 (-59) 59 = true
      · rw [if_pos ho] at hdf
        exact ⟨[],[],0,1,rfl,Nat.le_refl _,by simp,hdf,.inl ⟨rfl,rfl,rfl,rfl,fun k => touched_off nw nc W card a k hbd hcv (by omega) ho⟩⟩
      · rw [if_neg ho] at hdf
        have h1 : outB a.1 (-59) 59 = false := by cases h : outB a.1 (-59) 59 <;> simp [h] at ho ⊢
        have h2 : outB a.2 (-59) 59 = false := by cases h : outB a.2 (-59) 59 <;> simp [h] at ho ⊢
        have hkp := (keep_unt W (touchL card a) : _ = tV W card a)
        have hsmall : ∀ p ∈ card,Small p := fun p hp => by have := c4 p hp; unfold Small; omega
        have htb := fun k => touchedBy_c nw nc W card a k hok (by omega) (fun p hp => (hsmall p hp).bd) haP
        rw [tb_tV hok c3] at htb
        have htl : (tV W card a).length ≤ card.length := by
          have := List.length_filter_le (untB W) (touchL card a)
          rw [touchL_len] at this
          exact this
        refine ⟨tV W card a,doneP (fun p => !untB W p) (touchL card a),_,0,?_,?_,by omega,hdf,.inr ⟨rfl,fun k => touchedApi_all nw nc W card a k hbd hok hcv (by omega) hsmall h1 h2,htb⟩⟩
        · have h3 : keepP (fun p => !untB W p) (touchL card a) = tV W card a := hkp
          unfold doneP
          rw [h3,List.take_append_of_le_length (Nat.le_refl _),List.take_length]
        · rw [doneP_len,touchL_len]; exact htl
    obtain ⟨B,okb,g,hBl,hB⟩ : ∃ (B : List Pt) (okb : Bool) (g : Int),B.length ≤ 1000000 ∧ ((14 < (opV W).length ∧ B = [] ∧ okb = false ∧ g = 2 ∧ ∀ k,ACall Tryz.prog 17 [wafP nw W,litPl nc card] [] k (.tup [.lit true 0 [],.bool false,.int .i64 2]) []) ∨
        ((opV W).length ≤ 14 ∧ g = 0 ∧ (∀ k,ACall Tryz.prog 17 [wafP nw W,litPl nc card] [] k (.tup [.sl k 0 B.length,.bool okb,.int .i64 0]) [(k,arrPl B)]) ∧ ∀ k,ACall Tryz.prog 24 [wafP nw W,litPl nc card] [] k (.tup [.sl k 0 B.length,.bool okb]) [(k,arrPl B)])) := by
      by_cases hk : (opV W).length ≤ 14
      · have := fewOut_len (card := card) hk
        exact ⟨fewOut W card,(fewGo W card).isSome,0,by omega,.inr ⟨hk,rfl,fun k => fewestApi_all nw nc W card k hbd hok hcv (by omega) hc100 hk,fun k => fewestR_all nw nc W card k hok (by omega) hc100 hk hcz⟩⟩
      · exact ⟨[],false,2,by simp,.inl ⟨by omega,rfl,rfl,rfl,fun k => fewest_many nw nc W card k hbd hok hcv (by omega) (by omega)⟩⟩
    rw [hcv]
    generalize (opV W).length = K at *
    generalize (rowsV W card).2.1 = Rw at *
    generalize (rowsV W card).2.2 = ag at *
    generalize cntL (Lib.join W.rows []) 36 = CL at *
    generalize Lib.countByte (Lib.join W.rows []) 42 = C42 at *
    unfold wafP litPl at *
    refine SR.seqTo ⟨[(8,.sl (nid + 24) 0 T.length),(9,.int .i64 idle),(10,.int .i64 e1),(7,.int .i64 0),(4,.ptr (nid + 4) 0),(5,litPl nc card),(6,.ptr (nid + 20) 0)],[(nid + 4,boxW nw W),(nid + 20,boxA a),(nid + 24,arrPl D)],nid + 1100,nid⟩ ?_ ?_
    · unfold boxW litPl boxA
      simp -dsimp only [aqA,↓seqK,↓blkK,↓loopK,step,stepBin,eqB,Nat.add_assoc nid,↓reduceIte,simprocAttr,LN_succ]
      rcases hm with ⟨g1,g2,g3,g4,g5⟩ | ⟨g1,g2,g3⟩
      · refine CallO.pure (g5 _) ?_
        simp -dsimp only [aqA,↓seqK,↓blkK,↓loopK,step,stepBin,eqB,Nat.add_assoc nid,↓reduceIte,simprocAttr,LN_succ]
        refine Cov.go [] [(nid + 24,2)] ?_
        simp [cvT,step,res,arrPl,g1,g2,g3,g4,-List.getD_eq_getElem?_getD]
      · refine CallO.pure (g2 _) ?_
        unfold arrPl
        simp -dsimp only [aqA,↓seqK,↓blkK,↓loopK,step,stepBin,eqB,Nat.add_assoc nid,↓reduceIte,simprocAttr,LN_succ]
        refine Cov.go [(nid + 24,nid + 1012)] [] ?_
        simp [cvT,step,res,g1,-List.getD_eq_getElem?_getD]
    refine SR.seqTo ⟨[(11,.sl (nid + 28) 0 Rw.length),(12,.int .i64 (ag : Nat)),(13,.int .i64 0),(8,.sl (nid + 24) 0 T.length),(9,.int .i64 idle),(10,.int .i64 e1),(7,.int .i64 0),(4,.ptr (nid + 4) 0),(5,litPl nc card),(6,.ptr (nid + 20) 0)],[(nid + 4,boxW nw W),(nid + 20,boxA a),(nid + 24,arrPl D),(nid + 28,arrPl Rw)],nid + 1200,nid⟩ ?_ ?_
    · unfold boxW litPl boxA arrPl
      unfold arrPl at hra
      simp -dsimp only [aqA,↓seqK,↓blkK,↓loopK,step,stepBin,eqB,Nat.add_assoc nid,↓reduceIte,simprocAttr,LN_succ]
      refine CallO.pure (hra _) ?_
      simp -dsimp only [aqA,↓seqK,↓blkK,↓loopK,step,stepBin,eqB,Nat.add_assoc nid,↓reduceIte,simprocAttr,LN_succ]
      refine Cov.go [(nid + 28,nid + 1108)] [] ?_
      simp [cvT,step,res,-List.getD_eq_getElem?_getD]
    refine SR.seqTo ⟨[(14,.sl (nid + 32) 0 B.length),(15,.bool okb),(16,.int .i64 g),(11,.sl (nid + 28) 0 Rw.length),(12,.int .i64 (ag : Nat)),(13,.int .i64 0),(8,.sl (nid + 24) 0 T.length),(9,.int .i64 idle),(10,.int .i64 e1),(7,.int .i64 0),(4,.ptr (nid + 4) 0),(5,litPl nc card),(6,.ptr (nid + 20) 0)],[(nid + 4,boxW nw W),(nid + 20,boxA a),(nid + 24,arrPl D),(nid + 28,arrPl Rw),(nid + 32,arrPl B)],nid + 1300,nid⟩ ?_ ?_
    · unfold boxW litPl boxA arrPl
      simp -dsimp only [aqA,↓seqK,↓blkK,↓loopK,step,stepBin,eqB,Nat.add_assoc nid,↓reduceIte,simprocAttr,LN_succ]
      rcases hB with ⟨g1,g2,g3,g4,g5⟩ | ⟨g1,g2,g3,g4⟩
      · refine CallO.pure (g5 _) ?_
        simp -dsimp only [aqA,↓seqK,↓blkK,↓loopK,step,stepBin,eqB,Nat.add_assoc nid,↓reduceIte,simprocAttr,LN_succ]
        refine Cov.go [] [(nid + 32,2)] ?_
        simp [cvT,step,res,g2,g3,g4,-List.getD_eq_getElem?_getD]
      · refine CallO.pure (g3 _) ?_
        unfold arrPl
        simp -dsimp only [aqA,↓seqK,↓blkK,↓loopK,step,stepBin,eqB,Nat.add_assoc nid,↓reduceIte,simprocAttr,LN_succ]
        refine Cov.go [(nid + 32,nid + 1208)] [] ?_
        simp [cvT,step,res,g2,-List.getD_eq_getElem?_getD]
    refine SR.seq ?_
    unfold boxW litPl boxA arrPl
    simp -dsimp only [aqA,↓seqK,↓blkK,↓loopK,step,stepBin,eqB,Nat.add_assoc nid,↓reduceIte,simprocAttr,LN_succ]
    refine SR.freezeB [nid + 24,nid + 28,nid + 32] (fun nl' => ?_)
    simp only [frzS,frzH,frzBlk,lends,lend,kill,noOs,aqA,↓seqK,↓blkK,↓loopK,step,stepBin,eqB,Nat.add_assoc nid,↓reduceIte,simprocAttr,LN_succ]
    generalize nl' (nid + 24) = n1
    generalize nl' (nid + 28) = n2
    generalize nl' (nid + 32) = n3
    refine SR.seqTo ⟨[(17,.int .i64 e1),(14,litPl n3 B),(15,.bool okb),(16,.int .i64 g),(11,litPl n2 Rw),(12,.int .i64 (ag : Nat)),(13,.int .i64 0),(8,litPl n1 T),(9,.int .i64 idle),(10,.int .i64 e1),(7,.int .i64 0),(4,.ptr (nid + 4) 0),(5,litPl nc card),(6,.ptr (nid + 20) 0)],[(nid + 4,boxW nw W),(nid + 20,boxA a)],nid + 1500,nid⟩ ?_ ?_
    · simp -dsimp only [aqA,↓seqK,↓blkK,↓loopK,step,stepBin,eqB,Nat.add_assoc nid,↓reduceIte,simprocAttr,LN_succ]
      refine CallO.pure (hdf _) ?_
      simp -dsimp only [aqA,↓seqK,↓blkK,↓loopK,step,stepBin,eqB,Nat.add_assoc nid,↓reduceIte,simprocAttr,LN_succ]
      refine Cov.go [] [] ?_
      have hDE : ∀ i,i < T.length → D.getD i p0 = T.getD i p0 := fun i hi => by
        have h : (D.take T.length).getD i p0 = T.getD i p0 := by rw [hDT]
        rw [← h,List.getD_eq_getElem?_getD,List.getD_eq_getElem?_getD,List.getElem?_take,if_pos hi]
      simp [cvT,step,res,boxW,litPl,boxA,ColsEq.refl,-List.getD_eq_getElem?_getD]
      exact ⟨ColEq.i fun i hi => by rw [hDE i hi],ColEq.i fun i hi => by rw [hDE i hi]⟩
    refine SR.seq ?_
    unfold boxW litPl boxA
    simp -dsimp only [aqA,↓seqK,↓blkK,↓loopK,step,stepBin,eqB,Nat.add_assoc nid,↓reduceIte,simprocAttr,LN_succ]
    refine SR.seq ?_
    simp -dsimp only [aqA,↓seqK,↓blkK,↓loopK,step,stepBin,eqB,Nat.add_assoc nid,↓reduceIte,simprocAttr,LN_succ]
    refine SR.seqTo ⟨[(18,.sl (nid + 36) 0 T.length),(19,.int .i64 idle),(17,.int .i64 e1),(14,litPl n3 B),(15,.bool okb),(16,.int .i64 g),(11,litPl n2 Rw),(12,.int .i64 (ag : Nat)),(13,.int .i64 0),(8,litPl n1 T),(9,.int .i64 idle),(10,.int .i64 e1),(4,.ptr (nid + 4) 0),(5,litPl nc card)],[(nid + 4,boxW nw W),(nid + 36,arrPl T)],nid + 1700,nid⟩ ?_ ?_
    · simp -dsimp only [aqA,↓seqK,↓blkK,↓loopK,step,stepBin,eqB,Nat.add_assoc nid,↓reduceIte,simprocAttr,LN_succ]
      rcases hm with ⟨g1,g2,g3,g4,g5⟩ | ⟨g1,g2,g3⟩
      · subst g1
        simp -dsimp only [aqA,↓seqK,↓blkK,↓loopK,step,stepBin,eqB,Nat.add_assoc nid,↓reduceIte,simprocAttr,LN_succ]
        refine Cov.go [] [(nid + 36,2)] ?_
        simp [cvT,step,res,boxW,litPl,arrPl,g2,g4,-List.getD_eq_getElem?_getD]
      · subst g1
        simp -dsimp only [aqA,↓seqK,↓blkK,↓loopK,step,stepBin,eqB,Nat.add_assoc nid,↓reduceIte,simprocAttr,LN_succ]
        refine CallO.pure (g3 _) ?_
        unfold arrPl
        simp -dsimp only [aqA,↓seqK,↓blkK,↓loopK,step,stepBin,eqB,Nat.add_assoc nid,↓reduceIte,simprocAttr,LN_succ]
        refine Cov.go [(nid + 36,nid + 1528)] [] ?_
        simp [cvT,step,res,boxW,litPl,-List.getD_eq_getElem?_getD]
    unfold boxW litPl arrPl
    refine SR.freezeB [nid + 36] (fun nl' => ?_)
    simp only [frzS,frzH,frzBlk,lends,lend,kill,noOs,aqA,↓seqK,↓blkK,↓loopK,step,stepBin,eqB,Nat.add_assoc nid,↓reduceIte,simprocAttr,LN_succ]
    generalize nl' (nid + 36) = n4
    refine SR.seqTo ⟨[(20,.sl (nid + 40) 0 Rw.length),(21,.int .i64 (ag : Nat)),(18,litPl n4 T),(19,.int .i64 idle),(17,.int .i64 e1),(14,litPl n3 B),(15,.bool okb),(16,.int .i64 g),(11,litPl n2 Rw),(12,.int .i64 (ag : Nat)),(13,.int .i64 0),(8,litPl n1 T),(9,.int .i64 idle),(10,.int .i64 e1),(4,.ptr (nid + 4) 0),(5,litPl nc card)],[(nid + 4,boxW nw W),(nid + 40,arrPl Rw)],nid + 1900,nid⟩ ?_ ?_
    · simp -dsimp only [aqA,↓seqK,↓blkK,↓loopK,step,stepBin,eqB,Nat.add_assoc nid,↓reduceIte,simprocAttr,LN_succ]
      refine CallO.pure (hro _) ?_
      unfold arrPl
      simp -dsimp only [aqA,↓seqK,↓blkK,↓loopK,step,stepBin,eqB,Nat.add_assoc nid,↓reduceIte,simprocAttr,LN_succ]
      refine Cov.go [(nid + 40,nid + 1708)] [] ?_
      simp [cvT,step,res,boxW,litPl,-List.getD_eq_getElem?_getD]
    unfold boxW litPl arrPl
    refine SR.freezeB [nid + 40] (fun nl' => ?_)
    simp only [frzS,frzH,frzBlk,lends,lend,kill,noOs,aqA,↓seqK,↓blkK,↓loopK,step,stepBin,eqB,Nat.add_assoc nid,↓reduceIte,simprocAttr,LN_succ]
    generalize nl' (nid + 40) = n5
    have heq := fun nl nl' (l m : List Pt) k h1 h2 => equalPl_c nl nl' l m k h1 h2
    unfold litPl at heq
    have tt : ∀ l : List Pt,(l == l) = true := fun l => by simp
    refine SR.seqTo ⟨[(14,litPl n3 B),(15,.bool okb),(16,.int .i64 g),(4,.ptr (nid + 4) 0),(5,litPl nc card)],[(nid + 4,boxW nw W)],nid + 2100,nid⟩ ?_ ?_
    · have b1 : (e1 != e1) = false := by simp
      have b2 : (idle != idle) = false := by simp
      have b3 : ((ag : Int) != (ag : Int)) = false := by simp
      simp -dsimp only [aqA,↓seqK,↓blkK,↓loopK,step,stepBin,eqB,Nat.add_assoc nid,↓reduceIte,simprocAttr,LN_succ,b1,b2,b3]
      refine CallO.pure (heq _ _ _ _ _ hTl hTl) ?_
      rw [tt]
      simp -dsimp only [aqA,↓seqK,↓blkK,↓loopK,step,stepBin,eqB,Nat.add_assoc nid,↓reduceIte,simprocAttr,LN_succ,b1,b2,b3]
      refine CallO.pure (heq _ _ _ _ _ hrl hrl) ?_
      rw [tt]
      simp -dsimp only [aqA,↓seqK,↓blkK,↓loopK,step,stepBin,eqB,Nat.add_assoc nid,↓reduceIte,simprocAttr,LN_succ,b1,b2,b3]
      refine Cov.go [] [] ?_
      simp [cvT,step,res,boxW,litPl,-List.getD_eq_getElem?_getD]
    unfold boxW litPl
    unfold arrS2 at hct
    rcases hB with ⟨g1,g2,g3,g4,g5⟩ | ⟨g1,g2,g3,g4⟩
    · subst g2; subst g3; subst g4
      have b1 : decide ((14 : Int) < (K : Int)) = true := decide_eq_true (by omega)
      refine SR.run (t := .mk) ?_
      simp -dsimp only [aqA,↓seqK,↓blkK,↓loopK,step,stepBin,eqB,Nat.add_assoc nid,↓reduceIte,simprocAttr,LN_succ]
      refine CallO.pure (hct _) ?_
      simp -dsimp only [aqA,↓seqK,↓blkK,↓loopK,step,stepBin,eqB,Nat.add_assoc nid,↓reduceIte,simprocAttr,LN_succ,b1]
      refine CallO.pure (hps _) ?_
      simp -dsimp only [aqA,↓seqK,↓blkK,↓loopK,step,stepBin,eqB,Nat.add_assoc nid,↓reduceIte,simprocAttr,LN_succ]
      refine RetOK.go [] [] (.inl rfl) ?_
      simp [a3,cvT,step,res,-List.getD_eq_getElem?_getD]
    · subst g2
      have b1 : decide ((14 : Int) < (K : Int)) = false := decide_eq_false (by omega)
      refine SR.seqTo ⟨[(14,litPl n3 B),(15,.bool okb),(16,.int .i64 0),(4,.ptr (nid + 4) 0),(5,litPl nc card)],[(nid + 4,boxW nw W)],nid + 2500,nid⟩ ?_ ?_
      · simp -dsimp only [aqA,↓seqK,↓blkK,↓loopK,step,stepBin,eqB,Nat.add_assoc nid,↓reduceIte,simprocAttr,LN_succ]
        refine CallO.pure (hct _) ?_
        simp -dsimp only [aqA,↓seqK,↓blkK,↓loopK,step,stepBin,eqB,Nat.add_assoc nid,↓reduceIte,simprocAttr,LN_succ,b1]
        refine Cov.go [] [] ?_
        simp [cvT,step,res,boxW,litPl,-List.getD_eq_getElem?_getD]
      unfold boxW litPl
      refine SR.seqTo ⟨[(25,.sl (nid + 44) 0 B.length),(26,.bool okb),(14,litPl n3 B),(15,.bool okb),(16,.int .i64 0)],[(nid + 44,arrPl B)],nid + 2700,nid⟩ ?_ ?_
      · simp -dsimp only [aqA,↓seqK,↓blkK,↓loopK,step,stepBin,eqB,Nat.add_assoc nid,↓reduceIte,simprocAttr,LN_succ]
        refine CallO.pure (g4 _) ?_
        unfold arrPl
        simp -dsimp only [aqA,↓seqK,↓blkK,↓loopK,step,stepBin,eqB,Nat.add_assoc nid,↓reduceIte,simprocAttr,LN_succ]
        refine Cov.go [(nid + 44,nid + 2508)] [] ?_
        simp [cvT,step,res,litPl,-List.getD_eq_getElem?_getD]
      unfold litPl arrPl
      refine SR.freezeB [nid + 44] (fun nl' => ?_)
      simp only [frzS,frzH,frzBlk,lends,lend,kill,noOs,aqA,↓seqK,↓blkK,↓loopK,step,stepBin,eqB,Nat.add_assoc nid,↓reduceIte,simprocAttr,LN_succ]
      generalize nl' (nid + 44) = n6
      have b2 : (okb == okb) = true := by simp
      refine SR.run (t := .mk) ?_
      simp -dsimp only [aqA,↓seqK,↓blkK,↓loopK,step,stepBin,eqB,Nat.add_assoc nid,↓reduceIte,simprocAttr,LN_succ]
      refine CallO.pure (heq _ _ _ _ _ hBl hBl) ?_
      rw [tt]
      simp -dsimp only [aqA,↓seqK,↓blkK,↓loopK,step,stepBin,eqB,Nat.add_assoc nid,↓reduceIte,simprocAttr,LN_succ,b2]
      refine CallO.pure (hps _) ?_
      simp -dsimp only [aqA,↓seqK,↓blkK,↓loopK,step,stepBin,eqB,Nat.add_assoc nid,↓reduceIte,simprocAttr,LN_succ]
      refine RetOK.go [] [] (.inl rfl) ?_
      simp [a3,cvT,step,res,-List.getD_eq_getElem?_getD]
  · have h1 := fun k => touched_bad nw nc W card a k hbd hcv (by omega)
    have h2 := fun k => rows_bad nw nc W card k hbd hcv (by omega)
    have h3 := fun k => fewest_bad nw nc W card k hbd hcv (by omega)
    have b1 : (cfV W card != 0) = true := by rw [bne_iff_ne]; exact hcv
    generalize cfV W card = v at *
    unfold wafP litPl at *
    refine SR.seqTo ⟨[(8,.lit true 0 []),(9,.int .i64 0),(10,.int .i64 v),(7,.int .i64 v),(4,.ptr (nid + 4) 0),(5,litPl nc card),(6,.ptr (nid + 20) 0)],[(nid + 4,boxW nw W),(nid + 20,boxA a)],nid + 1100,nid⟩ ?_ ?_
    · unfold boxW litPl boxA
      simp -dsimp only [aqA,↓seqK,↓blkK,↓loopK,step,stepBin,eqB,Nat.add_assoc nid,↓reduceIte,simprocAttr,LN_succ]
      refine CallO.pure (h1 _) ?_
      simp -dsimp only [aqA,↓seqK,↓blkK,↓loopK,step,stepBin,eqB,Nat.add_assoc nid,↓reduceIte,simprocAttr,LN_succ]
      refine Cov.go [] [] ?_
      simp [cvT,step,res,-List.getD_eq_getElem?_getD]
    refine SR.seqTo ⟨[(11,.lit true 0 []),(12,.int .i64 0),(13,.int .i64 v),(8,.lit true 0 []),(9,.int .i64 0),(10,.int .i64 v),(7,.int .i64 v),(4,.ptr (nid + 4) 0),(5,litPl nc card),(6,.ptr (nid + 20) 0)],[(nid + 4,boxW nw W),(nid + 20,boxA a)],nid + 1200,nid⟩ ?_ ?_
    · unfold boxW litPl boxA
      simp -dsimp only [aqA,↓seqK,↓blkK,↓loopK,step,stepBin,eqB,Nat.add_assoc nid,↓reduceIte,simprocAttr,LN_succ]
      refine CallO.pure (h2 _) ?_
      simp -dsimp only [aqA,↓seqK,↓blkK,↓loopK,step,stepBin,eqB,Nat.add_assoc nid,↓reduceIte,simprocAttr,LN_succ]
      refine Cov.go [] [] ?_
      simp [cvT,step,res,-List.getD_eq_getElem?_getD]
    refine SR.seqTo ⟨[(14,.lit true 0 []),(15,.bool false),(16,.int .i64 v),(11,.lit true 0 []),(12,.int .i64 0),(13,.int .i64 v),(8,.lit true 0 []),(9,.int .i64 0),(10,.int .i64 v),(7,.int .i64 v)],[],nid + 1300,nid⟩ ?_ ?_
    · unfold boxW litPl boxA
      simp -dsimp only [aqA,↓seqK,↓blkK,↓loopK,step,stepBin,eqB,Nat.add_assoc nid,↓reduceIte,simprocAttr,LN_succ]
      refine CallO.pure (h3 _) ?_
      simp -dsimp only [aqA,↓seqK,↓blkK,↓loopK,step,stepBin,eqB,Nat.add_assoc nid,↓reduceIte,simprocAttr,LN_succ]
      refine Cov.go [] [] ?_
      simp [cvT,step,res,-List.getD_eq_getElem?_getD]
    refine SR.run (t := .mk) ?_
    simp -dsimp only [aqA,↓seqK,↓blkK,↓loopK,step,stepBin,eqB,Nat.add_assoc nid,↓reduceIte,simprocAttr,LN_succ,b1]
    refine ⟨by unfold inI64; omega,by unfold inI64; omega,?_⟩
    refine CallO.pure (hps _) ?_
    simp -dsimp only [aqA,↓seqK,↓blkK,↓loopK,step,stepBin,eqB,Nat.add_assoc nid,↓reduceIte,simprocAttr,LN_succ]
    refine RetOK.go [] [] (.inl rfl) ?_
    simp [a3,cvT,step,res]
end Go.Proofs.YtmgfcjblclanmaaGreatDoor
