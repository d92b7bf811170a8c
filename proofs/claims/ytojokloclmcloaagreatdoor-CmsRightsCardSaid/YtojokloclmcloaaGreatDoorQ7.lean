/- Parts. -/
import Derived.Test.YtojokloclmcloaaGreatDoorQ6
set_option maxRecDepth 100000
set_option maxHeartbeats 8000000
set_option linter.unusedSimpArgs false
set_option linter.unusedVariables false
set_option linter.constructorNameAsVariable false
namespace Go.Proofs.YtojokloclmcloaaGreatDoor
open Go.Proofs.Tryz
open Go Go.RowKit
def optC (t:Int) (l:LN):LN:=if l=[] then [] else [.mk 2 t true [] l]
def encK (s:Sd):LN:=if s.has=true then [oiN s.type,.mk 2 0 true [] [.mk 0 4 false s.content []]] else [oiN s.type]
noncomputable def sdK (s:Sd):LN:=[.mk 0 2 false (intB (sdV s)) [],(setF (digL s)).1,.mk 0 16 true [] (encK s)]
noncomputable def sdK1 (s:Sd):LN:=sdK s++optC 0 (s.certs.map crtN)
noncomputable def sdK2 (s:Sd):LN:=sdK1 s++optC 1 (s.crls.map clN)
noncomputable def inN (s:Sd):Nd:=.mk 0 16 true [] (sdK2 s++[.mk 0 17 true [] (s.signers.map sgN)])
noncomputable def sdN (s:Sd):Nd:=if sdR s=true then .mk 0 16 true [] [oiN oSigned,.mk 2 0 true [] [inN s]] else ndZ0
theorem Jn {P:Program} [Tb P] {F:Fd}{n:PostD}{x x':Nat->PostD}{a:LO}{o:LQ}{c d:Code}(aa:LO) (oo:LQ) (k1:JD P F d n x' aa oo->JD P F c (JD P F d n x') x a o) (k2:JD P F d n x' aa oo):JD P F c (JD P F d n x') x a o:=k1 k2
theorem JD.bk {P:Program} [Tb P] {F:Fd}{n:PostD}{x:Nat->PostD}{a a':LO}{o o':LQ}{c:Code}(K:JD P F c n x a' o') (hA:WkD a' a) (hO:WkO o' o):JD P F c n x a o:=JD.wd hA hO K
theorem nI {s:Sd}(h:sdR s=true):sdR0 s:=by
 unfold sdR at h;simp only [Bool.and_eq_true] at h;exact of_decide_eq_true h.1.1.1.1
theorem rl:∀ l r:LN,Nd.szL (l++r)=Nd.szL l+Nd.szL r
 |[],r=>by simp [Nd.szL]
 |x::l,r=>by simp only [List.cons_append,Nd.szL,rl l r];omega
theorem lh (t:Int) (l:LN):(optC t l).length<=1:=by unfold optC;split<;>simp
theorem oe (t:Int) (l:LN):Nd.szL (optC t l)<=1+Nd.szL l:=by
 unfold optC;split<;>simp only [Nd.szL,Nd.sz,aG]<;>omega
theorem encK_sz {s:Sd}(h:SdW s):Nd.szL (encK s)<=800000:=by
 have h1:=dZ s.type;have h2:=h.ty;have h3:=h.ct;unfold encK;split<;>simp only [Nd.szL,Nd.sz,aG]<;>omega
theorem setF_sz {s:Sd}(h:s.signers.length<=16):(setF (digL s)).1.sz<=16001:=by
 have hz:=su h;have:=(pw (digL s)).sz;omega
theorem sdz {s:Sd}(h:SdW s) (hr:sdR0 s):Nd.szL (sdK s)<=900000/\Nd.szL (s.certs.map crtN)<=32000000/\Nd.szL (s.crls.map clN)<=32000000/\Nd.szL (s.signers.map sgN)<=32000000:=by
 obtain⟨r1,r2,r3,r4,r5⟩:=hr;have e1:=encK_sz h;have e2:=setF_sz r5;have e3:(intB (sdV s)).length<=8:=by
  have i3:(intB 3).length<=8:=(eO 3 bT bT).2.2.1;have i1:(intB 1).length<=8:=(eO 1 bT bT).2.2.1;unfold sdV;split<;>assumption
 refine⟨by simp only [sdK,Nd.szL,Nd.sz,aG];omega,?_,?_,?_⟩
 ·exact Nat.le_trans (fX crtN 1000000 s.certs λc hc=>(iV (h.csB c hc)).2) z2_
 ·exact Nat.le_trans (fX clN 2000000 s.crls λc hc=>ne (h.lsB c hc)) z2_
 ·exact Nat.le_trans (fX sgN 2000000 s.signers λc hc=>mM (h.sgB c hc)) z2_
theorem ld (s:Sd) (h:SdW s):FnD prog 8 [.st s.enc] (.tup [.nd (sdN s),.i (if sdR s=true then 0 else 60)]):=by
 have hR:=iw s h;have hV:=hJ s h;refine aE func8 U ntmps8 U (λe=>?_);refine W ?_;refine Ci U (λh1=>?_) (λh1=>?_)
 ·have h2:¬ sdR s=true:=by simpa using h1
  unfold sdN;rw [if_neg h2,if_neg h2];refine W ?_;exact Rt U U U
 have h2:sdR s=true:=by simpa using h1
 have hr0:=nI h2;obtain⟨z1,z2,z3,z4⟩:=sdz h hr0;obtain⟨r1,r2,r3,r4,r5⟩:=hr0;obtain⟨b1,b2,b3,b4,b5,b6,b7,b8⟩:=h;have hD:=i6 s r5;have c0:=qE s.type z2_;have z0:=dZ s.type;have zo:(oiN oSigned).sz<=1000:=Nat.le_trans (dZ _) bT;have q1:=oe 0 (s.certs.map crtN);have q2:=oe 1 (s.crls.map clN);have hN:sdN s=.mk 0 16 true [] [oiN oSigned,.mk 2 0 true [] [inN s]]:=if_pos h2;rw [hN,if_pos h2];refine W ?_;refine Co U U (uB [oiN s.type] (by simp only [Nd.szL];omega)) U ?_;refine W ?_;refine Jn [(1,.own 0 0),(2,.own 1 0),(4,.own 2 0),(8,.own 5 0)] [(5,.var 35 [.d (.i 0),.d (.i 16),.d (.v (.bool true)),.d nilV,.row 4]),(4,.row 35 (.nds (encK s))),(2,.whl 35 (.nd (oiN oSigned))),(1,.var 35 [.d (.i 0),.d (.i 0),.d (.b false),.d nilV,.d nilV]),(0,.whl 27 (.st s.enc))] (λK=>?_) ?_
 ·refine Ci U (λh3=>?_) (λh3=>?_)
  ·have e1:encK s=[oiN s.type]++[.mk 2 0 true [] [.mk 0 4 false s.content []]]:=if_pos h3;rw [e1] at K;refine W ?_;refine Xap kN U U U U U U U (by simp) U U U ?_;refine RX1 U U ?_;refine df U ?_;refine Nvk 4 U U U U U ?_;exact K.bk ⟨⟨_,U,aZ⟩,⟨_,U,aZ⟩,⟨_,U,aZ⟩,⟨_,U,aZ⟩,trivial⟩ ⟨U,U,U,U,U,trivial⟩
  ·have e1:encK s=[oiN s.type]:=if_neg (by rw [h3];decide);rw [e1] at K;refine JD.skip ?_;exact K.bk ⟨⟨_,U,aZ⟩,⟨_,U,aZ⟩,⟨_,U,aZ⟩,⟨_,U,aZ⟩,trivial⟩ ⟨U,U,U,U,U,trivial⟩
 refine Pb 4 U ?_;refine W ?_;refine Xco (K:=kN) U U (uB (sdK s) z2_) U ?_;refine RX1 U U ?_;refine df U ?_;refine W ?_;refine Rn kN 10 35 U U ?_;refine Lp (γ:=Nat) (λg=>g<=s.certs.length) (λg=>s.certs.length+1-g) (λg=>[(1,.own 0 0),(2,.own 1 0),(4,.own 2 0),(9,.own 7 0),(10,.row 8),(11,.d nilV),(12,.d nilV),(63,.d (.sl 11 Crt.enc s.certs)),(64,.d (.i (s.certs.length:Int))),(65,.d (.i (g:Int)))])
  (λg=>[(8,.row 35 (.nds ((s.certs.take g).map crtN))),(7,.var 35 [.d (.i 0),.d (.i 16),.d (.v (.bool true)),.d nilV,.row 6]),(6,.row 35 (.nds (sdK s))),(2,.whl 35 (.nd (oiN oSigned))),(1,.var 35 [.d (.i 0),.d (.i 0),.d (.b false),.d nilV,.d nilV]),(0,.whl 27 (.st s.enc))]) 0 (Nat.zero_le _) ⟨U,U,U,U,U,U,U,U,U,U,trivial⟩ ⟨U,U,U,U,U,U,trivial⟩ ?_
 intro g hg;have hml:((s.certs.take g).map crtN).length<=100:=by rw [aD];have:=List.length_take_le' g s.certs;omega
 refine W ?_;refine Ci U (λh3=>?_) (λh3=>?_)
 ·have hlt:g<s.certs.length:=by omega
  have hget:s.certs.getD g default=s.certs[g]:=bG hlt;have hm:s.certs.getD g default∈s.certs:=by rw [hget];exact aF _
  have c3:=ku (s.certs.getD g default) (b4 _ hm);have htk:(s.certs.take (g+1)).map crtN=(s.certs.take g).map crtN++[crtN (s.certs.getD g default)]:=by rw [am hlt,List.map_append,hget];rfl
  refine W ?_;refine⟨g+1,by omega,by omega,⟨U,U,U,U,U,U,U,U,U,U,trivial⟩,?_⟩;show WkO [(8,.row 35 (.nds ((s.certs.take (g+1)).map crtN))),(7,.var 35 [.d (.i 0),.d (.i 16),.d (.v (.bool true)),.d nilV,.row 6]),(6,.row 35 (.nds (sdK s))),(2,.whl 35 (.nd (oiN oSigned))),(1,.var 35 [.d (.i 0),.d (.i 0),.d (.b false),.d nilV,.d nilV]),(0,.whl 27 (.st s.enc))] _;rw [htk];exact⟨U,U,U,U,U,U,trivial⟩
 have hge:g=s.certs.length:=by omega
 subst hge;rw [List.take_length];clear h3 hg hml;refine W ?_;refine Rn kN 11 35 U U ?_;refine Lp (γ:=Nat) (λg=>g<=s.crls.length) (λg=>s.crls.length+1-g) (λg=>[(1,.own 0 0),(2,.own 1 0),(4,.own 2 0),(9,.own 7 0),(10,.row 8),(11,.row 9),(12,.d nilV),(80,.d (.sl 6 Cl.enc s.crls)),(81,.d (.i (s.crls.length:Int))),(82,.d (.i (g:Int)))])
  (λg=>[(9,.row 35 (.nds ((s.crls.take g).map clN))),(8,.row 35 (.nds (s.certs.map crtN))),(7,.var 35 [.d (.i 0),.d (.i 16),.d (.v (.bool true)),.d nilV,.row 6]),(6,.row 35 (.nds (sdK s))),(2,.whl 35 (.nd (oiN oSigned))),(1,.var 35 [.d (.i 0),.d (.i 0),.d (.b false),.d nilV,.d nilV]),(0,.whl 27 (.st s.enc))]) 0 (Nat.zero_le _) ⟨U,U,U,U,U,U,U,U,U,U,trivial⟩ ⟨U,U,U,U,U,U,U,trivial⟩ ?_
 intro g hg;have hml:((s.crls.take g).map clN).length<=100:=by rw [aD];have:=List.length_take_le' g s.crls;omega
 refine W ?_;refine Ci U (λh3=>?_) (λh3=>?_)
 ·have hlt:g<s.crls.length:=by omega
  have hget:s.crls.getD g default=s.crls[g]:=bG hlt;have hm:s.crls.getD g default∈s.crls:=by rw [hget];exact aF _
  have c3:=jU (s.crls.getD g default) (b6 _ hm);have htk:(s.crls.take (g+1)).map clN=(s.crls.take g).map clN++[clN (s.crls.getD g default)]:=by rw [am hlt,List.map_append,hget];rfl
  refine W ?_;refine⟨g+1,by omega,by omega,⟨U,U,U,U,U,U,U,U,U,U,trivial⟩,?_⟩;show WkO [(9,.row 35 (.nds ((s.crls.take (g+1)).map clN))),(8,.row 35 (.nds (s.certs.map crtN))),(7,.var 35 [.d (.i 0),.d (.i 16),.d (.v (.bool true)),.d nilV,.row 6]),(6,.row 35 (.nds (sdK s))),(2,.whl 35 (.nd (oiN oSigned))),(1,.var 35 [.d (.i 0),.d (.i 0),.d (.b false),.d nilV,.d nilV]),(0,.whl 27 (.st s.enc))] _;rw [htk];exact⟨U,U,U,U,U,U,U,trivial⟩
 have hge:g=s.crls.length:=by omega
 subst hge;rw [List.take_length];clear h3 hg hml;refine W ?_;refine Rn kN 12 35 U U ?_;refine Lp (γ:=Nat) (λg=>g<=s.signers.length) (λg=>s.signers.length+1-g) (λg=>[(1,.own 0 0),(2,.own 1 0),(4,.own 2 0),(9,.own 7 0),(10,.row 8),(11,.row 9),(12,.row 10),(97,.d (.sl 7 Sg.enc s.signers)),(98,.d (.i (s.signers.length:Int))),(99,.d (.i (g:Int)))])
  (λg=>[(10,.row 35 (.nds ((s.signers.take g).map sgN))),(8,.row 35 (.nds (s.certs.map crtN))),(9,.row 35 (.nds (s.crls.map clN))),(7,.var 35 [.d (.i 0),.d (.i 16),.d (.v (.bool true)),.d nilV,.row 6]),(6,.row 35 (.nds (sdK s))),(2,.whl 35 (.nd (oiN oSigned))),(1,.var 35 [.d (.i 0),.d (.i 0),.d (.b false),.d nilV,.d nilV]),(0,.whl 27 (.st s.enc))]) 0 (Nat.zero_le _) ⟨U,U,U,U,U,U,U,U,U,U,trivial⟩ ⟨U,U,U,U,U,U,U,U,trivial⟩ ?_
 intro g hg;have hml:((s.signers.take g).map sgN).length<=100:=by rw [aD];have:=List.length_take_le' g s.signers;omega
 refine W ?_;refine Ci U (λh3=>?_) (λh3=>?_)
 ·have hlt:g<s.signers.length:=by omega
  have hget:s.signers.getD g default=s.signers[g]:=bG hlt;have hm:s.signers.getD g default∈s.signers:=by rw [hget];exact aF _
  have c3:=ft (s.signers.getD g default) (pt (b8 _ hm));have htk:(s.signers.take (g+1)).map sgN=(s.signers.take g).map sgN++[sgN (s.signers.getD g default)]:=by rw [am hlt,List.map_append,hget];rfl
  refine W ?_;refine⟨g+1,by omega,by omega,⟨U,U,U,U,U,U,U,U,U,U,trivial⟩,?_⟩;show WkO [(10,.row 35 (.nds ((s.signers.take (g+1)).map sgN))),(8,.row 35 (.nds (s.certs.map crtN))),(9,.row 35 (.nds (s.crls.map clN))),(7,.var 35 [.d (.i 0),.d (.i 16),.d (.v (.bool true)),.d nilV,.row 6]),(6,.row 35 (.nds (sdK s))),(2,.whl 35 (.nd (oiN oSigned))),(1,.var 35 [.d (.i 0),.d (.i 0),.d (.b false),.d nilV,.d nilV]),(0,.whl 27 (.st s.enc))] _;rw [htk];exact⟨U,U,U,U,U,U,U,U,trivial⟩
 have hge:g=s.signers.length:=by omega
 subst hge;rw [List.take_length];clear h3 hg hml;refine W ?_;have y0:(sdK s).length=3:=rfl;have y1:(sdK1 s).length<=4:=by have:=lh 0 (s.certs.map crtN);unfold sdK1;rw [aU];omega
 have y2:(sdK2 s).length<=5:=by have:=lh 1 (s.crls.map clN);unfold sdK2;rw [aU];omega
 have hcs2:=@jC 0 17 (s.signers.map sgN) z2_;have z5:(inN s).sz<=110000000:=by
  simp only [inN,sdK2,sdK1,Nd.sz,Nd.szL,rl,aG];omega
 refine Pb 8 U ?_;refine Pb 9 U ?_;refine Pb 10 U ?_;have hcs:=@jC 2 0 (s.certs.map crtN) z2_;refine Jn [(1,.own 0 0),(2,.own 1 0),(4,.own 2 0),(9,.own 7 0),(11,.d (.nds (s.crls.map clN))),(12,.d (.nds (s.signers.map sgN)))] [(7,.var 35 [.d (.i 0),.d (.i 16),.d (.v (.bool true)),.d nilV,.row 6]),(6,.row 35 (.nds (sdK1 s))),(2,.whl 35 (.nd (oiN oSigned))),(1,.var 35 [.d (.i 0),.d (.i 0),.d (.b false),.d nilV,.d nilV]),(0,.whl 27 (.st s.enc))] (λK=>?_) ?_
 ·refine Ci U (λh3=>?_) (λh3=>?_)
  ·have e1:sdK1 s=sdK s++[.mk 2 0 true [] (s.certs.map crtN)]:=by
    have e0:s.certs.map crtN≠[]:=λe=>by rw [e] at h3;simp at h3
    unfold sdK1 optC;rw [if_neg e0]
   rw [e1] at K;refine W ?_;refine Xap kN U U U U U U U (by simp only [aC,aG];omega) U U U ?_;refine RX1 U U ?_;refine df U ?_;refine Nvk 6 U U U U U ?_;exact K.bk ⟨⟨_,U,aZ⟩,⟨_,U,aZ⟩,⟨_,U,aZ⟩,⟨_,U,aZ⟩,⟨_,U,aZ⟩,⟨_,U,aZ⟩,trivial⟩ ⟨U,U,U,U,U,trivial⟩
  ·have e1:sdK1 s=sdK s:=by
    have e0:s.certs.map crtN=[]:=List.eq_nil_of_length_eq_zero z2_;unfold sdK1 optC;rw [if_pos e0,List.append_nil]
   rw [e1] at K;refine JD.skip ?_;exact K.bk ⟨⟨_,U,aZ⟩,⟨_,U,aZ⟩,⟨_,U,aZ⟩,⟨_,U,aZ⟩,⟨_,U,aZ⟩,⟨_,U,aZ⟩,trivial⟩ ⟨U,U,U,U,U,trivial⟩
 clear hcs;refine W ?_;have hcs:=@jC 2 1 (s.crls.map clN) z2_;refine Jn [(1,.own 0 0),(2,.own 1 0),(4,.own 2 0),(9,.own 7 0),(12,.d (.nds (s.signers.map sgN)))] [(7,.var 35 [.d (.i 0),.d (.i 16),.d (.v (.bool true)),.d nilV,.row 6]),(6,.row 35 (.nds (sdK2 s))),(2,.whl 35 (.nd (oiN oSigned))),(1,.var 35 [.d (.i 0),.d (.i 0),.d (.b false),.d nilV,.d nilV]),(0,.whl 27 (.st s.enc))] (λK=>?_) ?_
 ·refine Ci U (λh3=>?_) (λh3=>?_)
  ·have e1:sdK2 s=sdK1 s++[.mk 2 1 true [] (s.crls.map clN)]:=by
    have e0:s.crls.map clN≠[]:=λe=>by rw [e] at h3;simp at h3
    unfold sdK2 optC;rw [if_neg e0]
   rw [e1] at K;refine W ?_;refine Xap kN U U U U U U U (by simp only [aC,aG];omega) U U U ?_;refine RX1 U U ?_;refine df U ?_;refine Nvk 6 U U U U U ?_;exact K.bk ⟨⟨_,U,aZ⟩,⟨_,U,aZ⟩,⟨_,U,aZ⟩,⟨_,U,aZ⟩,⟨_,U,aZ⟩,trivial⟩ ⟨U,U,U,U,U,trivial⟩
  ·have e1:sdK2 s=sdK1 s:=by
    have e0:s.crls.map clN=[]:=List.eq_nil_of_length_eq_zero z2_;unfold sdK2 optC;rw [if_pos e0,List.append_nil]
   rw [e1] at K;refine JD.skip ?_;exact K.bk ⟨⟨_,U,aZ⟩,⟨_,U,aZ⟩,⟨_,U,aZ⟩,⟨_,U,aZ⟩,⟨_,U,aZ⟩,trivial⟩ ⟨U,U,U,U,U,trivial⟩
 clear hcs;refine W ?_;refine Xap kN U U U U U U U (by simp only [aC,aG];omega) U U U ?_;refine RX1 U U ?_;refine df U ?_;refine Nvk 6 U U U U U ?_;refine Pb 6 U ?_;have hcs3:=@jC 2 0 [inN s] (by simp only [Nd.szL];omega);have hsq:=uC [oiN oSigned,.mk 2 0 true [] [inN s]] (by simp only [Nd.szL,Nd.sz,aG];omega);refine W ?_;exact Rt U U U
instance:Cn prog 8 (type_of% @ld):=⟨@ld⟩
theorem sdN_sz {s:Sd}(h:SdW s):(sdN s).sz<=98000000:=by
 unfold sdN;split
 ·rename_i h2;have hr0:=nI h2;obtain⟨z1,z2,z3,z4⟩:=sdz h hr0;have zo:(oiN oSigned).sz<=1000:=Nat.le_trans (dZ _) bT;have q1:=oe 0 (s.certs.map crtN);have q2:=oe 1 (s.crls.map clN);simp only [inN,sdK2,sdK1,Nd.sz,Nd.szL,rl,aG];omega
 ·simp [ndZ0,Nd.sz,Nd.szL]
noncomputable def sdB (s:Sd):Txt:=if sdR s=true then(sdN s).wr.1 else []
noncomputable def sdE (s:Sd):Int:=if sdR s=true then(sdN s).wr.2 else 60
theorem ja (s:Sd) (h:SdW s):FnD prog 6 [.st s.enc] (.tup [.bs (sdB s),.i (sdE s)]):=by
 have hz:=sdN_sz h;have hn:=ld s h;unfold sdB sdE;refine aE func6 U ntmps6 U (λe=>?_);cases hr:sdR s
 ·rw [hr] at hn;rw [if_neg bT,if_neg bT];rw [if_neg bT] at hn;refine W ?_;exact Rt U U U
 ·rw [hr] at hn;rw [if_pos U,if_pos rfl];rw [if_pos rfl] at hn;refine W ?_;exact Rt U U U
instance:Cn prog 6 (type_of% @ja):=⟨@ja⟩
theorem sB:∀ (acc l:List Int) (x:Int),ddI acc (l++[x])=if((ddI acc l).any λt=>decide (t=x))=true then ddI acc l else ddI acc l++[x]
 |acc,[],x=>rfl
 |acc,y::l,x=>by
  rw [List.cons_append,lw,lw];split
  ·exact sB acc l x
  ·exact sB _ l x
theorem mz:∀ (acc l:List Int) (x:Int),x∈ddI acc l<->x∈acc\/x∈l
 |acc,[],x=>by rw [ddI_nil];simp
 |acc,y::l,x=>by
  rw [lw];split
  ·rename_i h;rw [List.any_eq_true] at h;obtain⟨t,ht,hh⟩:=h;have:=of_decide_eq_true hh;subst this;rw [mz acc l x,List.mem_cons];constructor
   ·rintro(h|h)
    ·exact .inl h
    ·exact .inr (.inr h)
   ·rintro(h|h|h)
    ·exact .inl h
    ·subst h;exact .inl ht
    ·exact .inr h
  ·rw [mz (acc++[y]) l x,List.mem_append,List.mem_singleton,List.mem_cons,or_assoc]
def vG (s:Sd) (g:Nat):Int:=if s.type=oData/\(s.signers.take g).all (λx=>x.ski.length == 0)=true then 1 else 3
def nqB (s:Sd) (g j:Nat):Bool:=decide (∀ i,i<j->(s.signers.getD i default).hash≠(s.signers.getD g default).hash)
theorem vG_nx {s:Sd}{g:Nat}(hg:g<s.signers.length):vG s (g+1)=if 0<((s.signers.getD g default).ski.length:Int) then 3 else vG s g:=by
 have e:(s.signers.take (g+1)).all (λx=>x.ski.length == 0)=((s.signers.take g).all (λx=>x.ski.length == 0)&&((s.signers.getD g default).ski.length == 0)):=by
  rw [am hg,List.all_append,show s.signers.getD g default=s.signers[g] from bG hg];simp
 unfold vG;rw [e];by_cases h:(s.signers.getD g default).ski.length=0
 ·rw [if_neg (show ¬ 0<((s.signers.getD g default).ski.length:Int) by omega),h];simp
 ·rw [if_pos (show 0<((s.signers.getD g default).ski.length:Int) by omega),if_neg];rintro⟨_,h2⟩;rw [Bool.and_eq_true,beq_iff_eq] at h2;exact h h2.2
theorem hsh_at {s:Sd}{i:Nat}(h:i<(hshs s).length) (hg:i<s.signers.length):(hshs s)[i]=(s.signers.getD i default).hash:=by
 rw [bG hg];exact List.getElem_map (λx:Sg=>x.hash)
theorem dd_nx {s:Sd}{g:Nat}(hg:g<s.signers.length):ddI [] ((hshs s).take (g+1))=if nqB s g g=true then ddI [] ((hshs s).take g)++[(s.signers.getD g default).hash] else ddI [] ((hshs s).take g):=by
 have hl:g<(hshs s).length:=by unfold hshs;rw [aD];exact hg
 have e0:=hsh_at hl hg;rw [am hl,sB,e0];have hm:((ddI [] ((hshs s).take g)).any λt=>decide (t=(s.signers.getD g default).hash))=true<->¬ nqB s g g=true:=by
  rw [List.any_eq_true];unfold nqB;rw [ax];constructor
  ·rintro⟨t,ht,h⟩ hall;have:=of_decide_eq_true h;subst this;rcases(mz _ _ _).1 ht with h|h
   ·cases h
   ·obtain⟨i,hi,hh⟩:=List.getElem_of_mem h;rw [bz] at hi;refine hall i z2_ ?_;rw [List.getElem_take,hsh_at _ z2_] at hh;exact hh
  ·intro h;have:∃ i,i<g/\(s.signers.getD i default).hash=(s.signers.getD g default).hash:=Classical.byContradiction λhn=>h λi hi he=>hn ⟨i,hi,he⟩;obtain⟨i,hi,he⟩:=this;refine⟨_,(mz _ _ _).2 (.inr ?_),aj U⟩;rw [<- he];have hi2:i<((hshs s).take g).length:=by rw [bz];omega
   have:=aF hi2;rw [List.getElem_take,hsh_at _ z2_] at this;exact this
 by_cases h:nqB s g g=true
 ·rw [if_pos h,if_neg λhh=>hm.1 hh h]
 ·rw [if_neg h,if_pos (hm.2 h)]
theorem nq_nx {s:Sd}{g j:Nat}:nqB s g (j+1)=(nqB s g j&&decide ((s.signers.getD j default).hash≠(s.signers.getD g default).hash)):=by
 unfold nqB;rw [Bool.eq_iff_iff,Bool.and_eq_true,ax,ax,ax];constructor
 ·intro k;exact⟨λi hi=>k i z2_,k j z2_⟩
 ·rintro⟨k1,k2⟩ i hi;by_cases hij:i=j
  ·subst hij;exact k2
  ·exact k1 i z2_
theorem rH {n:Nd}(hp:n.put.isSome=true) (hz:n.sz<=2000000) (hr:n.rk<=32):(rdTop (n.put.getD [])).1=n:=by
 obtain⟨b,hb⟩:=Option.isSome_iff_exists.1 hp;have h1:=dF _ n b (aL _) hb;have hw:n.wr=(b,0):=by unfold Nd.wr;rw [hb];simp only;rw [if_neg z2_,if_neg z2_]
 have h2:=nS (x:=n) (by rw [hw]);rw [hw] at h2;rw [hb];exact congrArg (·.1) h2
theorem nJ {s:Sd}(h:sdR s=true):(∀ c∈s.certs,certE c=0)/\(∀ c∈s.crls,clE c=0)/\∀ c∈s.signers,rightSg c=true:=by
 unfold sdR at h;simp only [Bool.and_eq_true,List.all_eq_true,beq_iff_eq] at h;exact⟨h.1.1.1.2,h.1.1.2,h.1.2⟩
theorem rds_certs (hT:∀ t,timeE t=0->(timeN t).put.isSome=true) {s:Sd}(h:SdW s) (h2:sdR s=true):rdNs (s.certs.map cbR)=s.certs.map crtN/\∀ b∈s.certs.map cbR,b.length<=16777216:=by
 refine⟨?_,λb hb=>?_⟩
 ·unfold rdNs;rw [List.map_map];refine List.map_congr_left λc hc=>?_;have hE:=(nJ h2).1 c hc;show(rdTop (cbR c)).1=crtN c;unfold cbR;rw [if_pos hE];exact rH (oZ hT hE) (by have:=(iV (h.csB c hc)).2;omega) (by have:=sE c;omega)
 ·obtain⟨c,hc,rfl⟩:=List.mem_map.1 hb;have h1:=(iV (h.csB c hc)).2;have h3:=iN (crtN c);unfold cbR;split<;>(try simp only [aG])<;>omega
theorem rds_crls (hT:∀ t,timeE t=0->(timeN t).put.isSome=true) {s:Sd}(h:SdW s) (h2:sdR s=true):rdNs (s.crls.map lbR)=s.crls.map clN/\∀ b∈s.crls.map lbR,b.length<=16777216:=by
 refine⟨?_,λb hb=>?_⟩
 ·unfold rdNs;rw [List.map_map];refine List.map_congr_left λc hc=>?_;have hE:=(nJ h2).2.1 c hc;show(rdTop (lbR c)).1=clN c;unfold lbR;rw [if_pos hE];exact rH (sF hT hE) (ne (h.lsB c hc)) (by have:=clN_rk c;omega)
 ·obtain⟨c,hc,rfl⟩:=List.mem_map.1 hb;have h1:=ne (h.lsB c hc);have h3:=iN (clN c);unfold lbR;split<;>(try simp only [aG])<;>omega
theorem rE {s:Sd}(h:SdW s) (h2:sdR s=true):rdNs (s.signers.map sbR)=s.signers.map sgN/\∀ b∈s.signers.map sbR,b.length<=16777216:=by
 refine⟨?_,λb hb=>?_⟩
 ·unfold rdNs;rw [List.map_map];refine List.map_congr_left λc hc=>?_;have hE:=(nJ h2).2.2 c hc;show(rdTop (sbR c)).1=sgN c;unfold sbR sgE;rw [if_pos hE,if_neg bT];exact rH (rp hE) (mM (h.sgB c hc)) (by have:=sgN_rk c;omega)
 ·obtain⟨c,hc,rfl⟩:=List.mem_map.1 hb;have h1:=mM (h.sgB c hc);have h3:=iN (sgN c);unfold sbR;split<;>(try simp only [aG])<;>omega
theorem ti (hT:∀ t,timeE t=0->(timeN t).put.isSome=true) (s:Sd) (h:SdW s):FnD prog 9 [.st s.enc] (.tup [.nd (sdN s),.i (if sdR s=true then 0 else 60)]):=by
 have cR:=jb s h;rw [<- mR hT h] at cR;have cA:=tC s h;refine aE func9 U ntmps9 U (λe=>?_);refine W ?_;refine Ci U (λh1=>?_) (λh1=>?_)
 ·have h2:¬ sdR s=true:=by simpa using h1
  unfold sdN;rw [if_neg h2,if_neg h2];refine W ?_;exact Rt U U U
 have h2:sdR s=true:=by simpa using h1
 have hr0:=nI h2;have d_certs:=rds_certs hT h h2;have d_crls:=rds_crls hT h h2;have d_signers:=rE h h2;have cr1:=jd (s.certs.map cbR) (by rw [aD];have:=h.cs;omega) d_certs.2;have cr2:=jd (s.crls.map lbR) (by rw [aD];have:=h.ls;omega) d_crls.2;have cr3:=jd (s.signers.map sbR) (by rw [aD];have:=h.sg;omega) d_signers.2;obtain⟨z1,z2,z3,z4⟩:=sdz h hr0;obtain⟨r1,r2,r3,r4,r5⟩:=hr0;obtain⟨b1,b2,b3,b4,b5,b6,b7,b8⟩:=h;have hN:sdN s=.mk 0 16 true [] [oiN oSigned,.mk 2 0 true [] [inN s]]:=if_pos h2;rw [hN,if_pos h2];refine W ?_;refine Jm (γ:=Unit) (λ_=>[(1,.own 0 0),(2,.own 1 0),(4,.d (.i (vG s 0)))]) (λ_=>[(1,.var 35 [.d (.i 0),.d (.i 0),.d (.b false),.d nilV,.d nilV]),(0,.whl 27 (.st s.enc))]) (λ_=>True) ?_ ?_
 ·refine Ci U (λh3=>?_) (λh3=>?_)
  ·have e1:vG s 0=3:=if_neg λhh=>h3 hh.1;rw [e1];refine W ?_;exact⟨(),trivial,⟨⟨_,U,aZ⟩,⟨_,U,aZ⟩,⟨_,U,aZ⟩,trivial⟩,⟨U,U,trivial⟩⟩
  ·have e1:vG s 0=1:=if_pos ⟨h3,U⟩;rw [e1];refine W ?_;exact⟨(),trivial,⟨⟨_,U,aZ⟩,⟨_,U,aZ⟩,⟨_,U,aZ⟩,trivial⟩,⟨U,U,trivial⟩⟩
 rintro _ _;refine W ?_;refine Rn kN 5 35 U U ?_;refine Lp (γ:=Nat) (λg=>g<=s.signers.length) (λg=>s.signers.length+1-g) (λg=>[(1,.own 0 0),(2,.own 1 0),(4,.d (.i (vG s g))),(5,.row 2),(6,.d (.i (g:Int)))]) (λg=>[(2,.row 35 (.nds ((ddI [] ((hshs s).take g)).map digN'))),(1,.var 35 [.d (.i 0),.d (.i 0),.d (.b false),.d nilV,.d nilV]),(0,.whl 27 (.st s.enc))]) 0 (Nat.zero_le _) ⟨U,U,U,U,U,trivial⟩ ⟨U,U,U,trivial⟩ ?_;intro g hg;have hml:((ddI [] ((hshs s).take g)).map digN').length<=100:=by
  have:=oV [] ((hshs s).take g);rw [aD];have h5:=List.length_take_le' g (hshs s);have h6:(hshs s).length=s.signers.length:=by unfold hshs;rw [aD]
  simp only [aG] at this;omega
 refine W ?_;refine Ci U (λh3=>?_) (λh3=>?_)
 ·have hlt:g<s.signers.length:=by omega
  have nv:=vG_nx hlt;have nd:=dd_nx hlt;refine W ?_;refine Jm (γ:=Unit) (λ_=>[(1,.own 0 0),(2,.own 1 0),(4,.d (.i (vG s (g+1)))),(5,.row 2),(6,.d (.i (g:Int)))]) (λ_=>[(2,.row 35 (.nds ((ddI [] ((hshs s).take g)).map digN'))),(1,.var 35 [.d (.i 0),.d (.i 0),.d (.b false),.d nilV,.d nilV]),(0,.whl 27 (.st s.enc))]) (λ_=>True) ?_ ?_
  ·refine Ci U (λh4=>?_) (λh4=>?_)
   ·rw [nv,if_pos h4];refine W ?_;exact⟨(),trivial,⟨⟨_,U,aZ⟩,⟨_,U,aZ⟩,⟨_,U,aZ⟩,⟨_,U,aZ⟩,⟨_,U,aZ⟩,trivial⟩,⟨U,U,U,trivial⟩⟩
   ·rw [nv,if_neg h4];refine W ?_;exact⟨(),trivial,⟨⟨_,U,aZ⟩,⟨_,U,aZ⟩,⟨_,U,aZ⟩,⟨_,U,aZ⟩,⟨_,U,aZ⟩,trivial⟩,⟨U,U,U,trivial⟩⟩
  rintro _ _;refine W ?_;refine Lp (γ:=Nat×D) (λj=>j.1<=g/\∃ b,b=nqB s g j.1/\(j.2=.bq b\/j.2=.v (.bool b))) (λj=>g+1-j.1) (λj=>[(1,.own 0 0),(2,.own 1 0),(4,.d (.i (vG s (g+1)))),(5,.row 2),(6,.d (.i (g:Int))),(7,.d j.2),(8,.d (.i (j.1:Int)))]) (λ_=>[(2,.row 35 (.nds ((ddI [] ((hshs s).take g)).map digN'))),(1,.var 35 [.d (.i 0),.d (.i 0),.d (.b false),.d nilV,.d nilV]),(0,.whl 27 (.st s.enc))]) (0,.v (.bool true)) ⟨Nat.zero_le _,true,by simp [nqB],.inr U⟩ ⟨U,U,U,U,U,U,U,trivial⟩ ⟨U,U,U,trivial⟩ ?_;rintro⟨j,d⟩ ⟨hj,b,hb,hd⟩;dsimp only at hj hb hd;rcases hd with rfl|rfl<;>cases b
  all_goals
   show JD _ _ _ _ _ [(1,.own 0 0),(2,.own 1 0),(4,.d (.i (vG s (g+1)))),(5,.row 2),(6,.d (.i (g:Int))),(7,.d _),(8,.d (.i (j:Int)))] [(2,.row 35 (.nds ((ddI [] ((hshs s).take g)).map digN'))),(1,.var 35 [.d (.i 0),.d (.i 0),.d (.b false),.d nilV,.d nilV]),(0,.whl 27 (.st s.enc))];refine W ?_;refine Ci U (λh5=>?_) (λh5=>?_)
   ·refine W ?_
    first
    |exact⟨(j+1,.v (.bool false)),by simp only;omega,⟨by simp only;omega,false,by rw [nq_nx,<- hb];rfl,.inr rfl⟩,⟨rfl,rfl,rfl,rfl,rfl,rfl,rfl,trivial⟩,⟨rfl,rfl,rfl,trivial⟩⟩
    |exact⟨(j+1,.bq false),by simp only;omega,⟨by simp only;omega,false,by rw [nq_nx,<- hb];rfl,.inl rfl⟩,⟨rfl,rfl,rfl,rfl,rfl,rfl,rfl,trivial⟩,⟨rfl,rfl,rfl,trivial⟩⟩
    |exact⟨(j+1,.bq (decide ((s.signers.getD j default).hash≠(s.signers.getD g default).hash))),by simp only;omega,⟨by simp only;omega,_,by rw [nq_nx,<- hb,Bool.true_and],.inl rfl⟩,⟨rfl,rfl,rfl,rfl,rfl,rfl,rfl,trivial⟩,⟨rfl,rfl,rfl,trivial⟩⟩
    |exact⟨(j+1,.bq (!decide ((s.signers.getD j default).hash=(s.signers.getD g default).hash))),by simp only;omega,⟨by simp only;omega,_,by rw [nq_nx,<- hb,Bool.true_and,decide_not],.inl rfl⟩,⟨rfl,rfl,rfl,rfl,rfl,rfl,rfl,trivial⟩,⟨rfl,rfl,rfl,trivial⟩⟩
   ·have hjg:j=g:=by omega
    subst hjg;refine W ?_
    first
    |(rw [<- hb,if_pos rfl] at nd;refine⟨j+1,by omega,by omega,⟨U,U,U,U,U,trivial⟩,?_⟩;show WkO [(2,.row 35 (.nds ((ddI [] ((hshs s).take (j+1))).map digN'))),(1,.var 35 [.d (.i 0),.d (.i 0),.d (.b false),.d nilV,.d nilV]),(0,.whl 27 (.st s.enc))] _;rw [nd,List.map_append];exact⟨U,U,U,trivial⟩)
    |(rw [<- hb,if_neg bT] at nd;refine⟨j+1,by omega,by omega,⟨U,U,U,U,U,trivial⟩,?_⟩;show WkO [(2,.row 35 (.nds ((ddI [] ((hshs s).take (j+1))).map digN'))),(1,.var 35 [.d (.i 0),.d (.i 0),.d (.b false),.d nilV,.d nilV]),(0,.whl 27 (.st s.enc))] _;rw [nd];exact⟨U,U,U,trivial⟩)
 have hge:g=s.signers.length:=by omega
 subst hge;have e1:(hshs s).take s.signers.length=hshs s:=aS (by unfold hshs;rw [aD];exact aL _);have e2:vG s s.signers.length=sdV s:=by unfold vG sdV;rw [List.take_length]
 rw [e1,e2,show(ddI [] (hshs s)).map digN'=digL s from rfl];clear h3 hg hml;have hz:=su r5;have cS:=rset_d (digL s) z2_ z2_;have cO:=@kK s.type z2_;have hv:0<=sdV s/\sdV s<=3:=by unfold sdV;split<;>omega
 have cI:=kP (sdV s) z2_ z2_;refine Pb 2 U ?_;refine W ?_;refine Jm (γ:=Unit) (λ_=>[(1,.own 0 0),(2,.own 1 0),(4,.d (.i (sdV s))),(9,.own 2 0),(11,.row 3)]) (λ_=>[(3,.row 35 (.nds (encK s))),(2,.whl 35 (.nd (setF (digL s)).1)),(1,.var 35 [.d (.i 0),.d (.i 0),.d (.b false),.d nilV,.d nilV]),(0,.whl 27 (.st s.enc))]) (λ_=>True) ?_ ?_
 ·refine Ci U (λh3=>?_) (λh3=>?_)
  ·have e1:encK s=[oiN s.type]++[.mk 2 0 true [] [.mk 0 4 false s.content []]]:=if_pos h3;rw [e1];refine W ?_;exact⟨(),trivial,⟨⟨_,U,aZ⟩,⟨_,U,aZ⟩,⟨_,U,aZ⟩,⟨_,U,aZ⟩,⟨_,U,aZ⟩,trivial⟩,⟨U,U,U,U,trivial⟩⟩
  ·have e1:encK s=[oiN s.type]:=if_neg (by rw [h3];decide);rw [e1];refine W ?_;exact⟨(),trivial,⟨⟨_,U,aZ⟩,⟨_,U,aZ⟩,⟨_,U,aZ⟩,⟨_,U,aZ⟩,⟨_,U,aZ⟩,trivial⟩,⟨U,U,U,U,trivial⟩⟩
 rintro _ _;refine Pb 3 U ?_;refine Wp ?_;refine Xg mK U U U ?_;refine Wn ?_;refine Cx U U cI ?_;refine Wn ?_;refine Cx U U (@mQ (encK s)) ?_;refine Xlt kN (l:=sdK s) U U U U U U U U U U ?_;refine Wn ?_;refine df U ?_;have y0:(sdK s).length=3:=rfl;have y1:(sdK1 s).length<=4:=by have:=lh 0 (s.certs.map crtN);unfold sdK1;rw [aU];omega
 have y2:(sdK2 s).length<=5:=by have:=lh 1 (s.crls.map clN);unfold sdK2;rw [aU];omega
 refine W ?_;refine Jm (γ:=Unit) (λ_=>[(1,.own 0 0),(2,.own 1 0),(12,.row 3),(14,.d (.sl 1 bE (s.crls.map lbR))),(15,.d (.sl 1 bE (s.signers.map sbR)))]) (λ_=>[(3,.row 35 (.nds (sdK1 s))),(1,.var 35 [.d (.i 0),.d (.i 0),.d (.b false),.d nilV,.d nilV]),(0,.whl 27 (.st s.enc))]) (λ_=>True) ?_ ?_
 ·refine Ci U (λh3=>?_) (λh3=>?_)
  ·have e1:sdK1 s=sdK s++[.mk 2 0 true [] (rdNs (s.certs.map cbR))]:=by
    have e0:s.certs.map crtN≠[]:=λe=>by rw [List.map_eq_nil_iff] at e;rw [e] at h3;simp at h3
    rw [d_certs.1];unfold sdK1 optC;rw [if_neg e0]
   rw [e1];refine W ?_;exact⟨(),trivial,⟨⟨_,U,aZ⟩,⟨_,U,aZ⟩,⟨_,U,aZ⟩,⟨_,U,aZ⟩,⟨_,U,aZ⟩,trivial⟩,⟨U,U,U,trivial⟩⟩
  ·have e1:sdK1 s=sdK s:=by
    have e0:s.certs.map crtN=[]:=List.map_eq_nil_iff.2 (List.eq_nil_of_length_eq_zero (by rw [aD] at h3;omega));unfold sdK1 optC;rw [if_pos e0,List.append_nil]
   rw [e1];refine W ?_;exact⟨(),trivial,⟨⟨_,U,aZ⟩,⟨_,U,aZ⟩,⟨_,U,aZ⟩,⟨_,U,aZ⟩,⟨_,U,aZ⟩,trivial⟩,⟨U,U,U,trivial⟩⟩
 rintro _ _;refine W ?_;refine Jm (γ:=Unit) (λ_=>[(1,.own 0 0),(2,.own 1 0),(12,.row 3),(15,.d (.sl 1 bE (s.signers.map sbR)))]) (λ_=>[(3,.row 35 (.nds (sdK2 s))),(1,.var 35 [.d (.i 0),.d (.i 0),.d (.b false),.d nilV,.d nilV]),(0,.whl 27 (.st s.enc))]) (λ_=>True) ?_ ?_
 ·refine Ci U (λh3=>?_) (λh3=>?_)
  ·have e1:sdK2 s=sdK1 s++[.mk 2 1 true [] (rdNs (s.crls.map lbR))]:=by
    have e0:s.crls.map clN≠[]:=λe=>by rw [List.map_eq_nil_iff] at e;rw [e] at h3;simp at h3
    rw [d_crls.1];unfold sdK2 optC;rw [if_neg e0]
   rw [e1];refine W ?_;exact⟨(),trivial,⟨⟨_,U,aZ⟩,⟨_,U,aZ⟩,⟨_,U,aZ⟩,⟨_,U,aZ⟩,trivial⟩,⟨U,U,U,trivial⟩⟩
  ·have e1:sdK2 s=sdK1 s:=by
    have e0:s.crls.map clN=[]:=List.map_eq_nil_iff.2 (List.eq_nil_of_length_eq_zero (by rw [aD] at h3;omega));unfold sdK2 optC;rw [if_pos e0,List.append_nil]
   rw [e1];refine W ?_;exact⟨(),trivial,⟨⟨_,U,aZ⟩,⟨_,U,aZ⟩,⟨_,U,aZ⟩,⟨_,U,aZ⟩,trivial⟩,⟨U,U,U,trivial⟩⟩
 rintro _ _;refine W ?_;have hi:inN s=.mk 0 16 true [] (sdK2 s++[.mk 0 17 true [] (rdNs (s.signers.map sbR))]):=by unfold inN;rw [d_signers.1]
 rw [hi];exact Rt U U U
noncomputable def rsB (s:Sd):Txt:=if sdR s=true then(if 16777216<(((sdN s).put.getD []).length:Int) then [] else(sdN s).put.getD []) else []
noncomputable def rsE (s:Sd):Int:=if sdR s=true then(if 16777216<(((sdN s).put.getD []).length:Int) then 2 else 0) else 60
theorem rswrite_d (hT:∀ t,timeE t=0->(timeN t).put.isSome=true) (s:Sd) (h:SdW s):FnD prog 7 [.st s.enc] (.tup [.bs (rsB s),.i (rsE s)]):=by
 have hz:=sdN_sz h;have hn:=ti hT s h;have hb:=i_ (sdN s) z2_;unfold rsB rsE;refine aE func7 U ntmps7 U (λe=>?_);cases hr:sdR s
 ·rw [hr] at hn;rw [if_neg bT,if_neg bT];rw [if_neg bT] at hn;refine W ?_;exact Rt U U U
 ·rw [hr] at hn;rw [if_pos U,if_pos rfl];rw [if_pos rfl] at hn;refine W ?_;refine Ci U (λh1=>?_) (λh1=>?_)
  ·rw [if_pos h1,if_pos h1];refine W ?_;exact Rt U U U
  ·rw [if_neg h1,if_neg h1];refine W ?_;exact Rt U U U
theorem setF_rk {s:Sd}:(setF (digL s)).1.rk<=3:=by
 rcases pw (digL s) with ⟨h1,h2,h3⟩|⟨l0,L,h1,h2,h3,h4,h5⟩
 ·rw [h2];simp [ndZ,Nd.rk,Nd.rkL]
 ·rw [h4];have:Nd.rkL (L.map (·.2))<=2:=kO _ λp hp=>by
   have hp':=h2.mem_iff.1 hp;have:p.2∈digL s:=by rw [<- h1.1];exact List.mem_map.2 ⟨p,hp',U⟩
   obtain⟨x,hx,he⟩:=List.mem_map.1 this;rw [<- he];have:=kY (oidH x);simp only [digN',Nd.rk,Nd.rkL];omega
  simp only [Nd.rk];omega
theorem optC_rk {t:Int}{l:LN}{B:Nat}(h:Nd.rkL l<=B):Nd.rkL (optC t l)<=B+1:=by
 unfold optC;split<;>simp only [Nd.rk,Nd.rkL]<;>omega
theorem sdN_rk (s:Sd):(sdN s).rk<=30:=by
 have h1:=@setF_rk s;have h2:=optC_rk (t:=0) (kO crtN (B:=10) (l:=s.certs) λc _=>sE c);have h3:=optC_rk (t:=1) (kO clN (B:=10) (l:=s.crls) λc _=>clN_rk c);have h4:=kO sgN (B:=24) (l:=s.signers) λc _=>sgN_rk c;have h5:=kY s.type;have h6:=kY oSigned;have h7:Nd.rkL (encK s)<=3:=by unfold encK;split<;>simp only [Nd.rk,Nd.rkL]<;>omega
 unfold sdN;split
 ·simp only [inN,sdK2,sdK1,sdK,Nd.rk,Nd.rkL,lY];omega
 ·simp [ndZ0,Nd.rk,Nd.rkL]
theorem v_ {s:Sd}(hp:sdR s=true->(sdN s).put.isSome=true):sdB s=rsB s/\sdE s=rsE s:=by
 have hr:=sdN_rk s;unfold sdB sdE rsB rsE;cases h:sdR s
 ·exact⟨U,U⟩
 ·obtain⟨b,hb⟩:=Option.isSome_iff_exists.1 (hp h);unfold Nd.wr;rw [hb];simp only [if_true];rw [if_neg z2_];by_cases h2:16777216<b.length
  ·rw [if_pos h2,if_pos (show 16777216<(((some b).getD []:Txt).length:Int) by show 16777216<(b.length:Int);omega),if_pos (show 16777216<(((some b).getD []:Txt).length:Int) by show 16777216<(b.length:Int);omega)];exact⟨U,U⟩
  ·rw [if_neg h2,if_neg (show ¬ 16777216<(((some b).getD []:Txt).length:Int) by show ¬ 16777216<(b.length:Int);omega),if_neg (show ¬ 16777216<(((some b).getD []:Txt).length:Int) by show ¬ 16777216<(b.length:Int);omega)];exact⟨U,U⟩
theorem ordB_of {l:List Txt}(h:∀ j,j+1<l.length->¬ 0<Go.Lib.compareBytes (l.getD j []) (l.getD (j+1) [])):ordB l=true:=aj λj hj=>h j z2_
theorem setF_put {s:Sd}(h:∀ c∈s.signers,rightSg c=true):(setF (digL s)).1.put.isSome=true:=by
 have hk:∀ x∈digL s,x.put.isSome=true:=λx hx=>by
  obtain⟨n,hn,rfl⟩:=List.mem_map.1 hx;rcases(mz _ _ _).1 hn with hn|hn
  ·cases hn
  ·obtain⟨g,hg,rfl⟩:=List.mem_map.1 hn;have hr:=h g hg;unfold rightSg at hr;simp only [Bool.and_eq_true,ax] at hr;exact uv (qk hr.1.1.1.1.2)
 rcases pw (digL s) with ⟨⟨x,hx,hb⟩,h2,h3⟩|⟨l0,L,h1,h2,h3,h4,h5⟩
 ·have:=hk x hx;rw [hb] at this;cases this
 ·have hp:∀ p∈L,p.2.put=some p.1:=λp hp=>h1.2 p (h2.mem_iff.1 hp);rw [h4,nZ,Bool.and_eq_true];refine⟨?_,ordB_of λj hj=>?_⟩
  ·rw [List.all_map,List.all_eq_true];intro p hpm;show p.2.put.isSome=true;rw [hp p hpm];rfl
  ·rw [aD,aD] at hj;have e:∀ i (hi:i<L.length),(((L.map (·.2)).map λk=>k.put.getD []).getD i [])=L[i].1:=λi hi=>by
    rw [bG (z:=[]) (by rw [aD,aD];exact hi),List.getElem_map,List.getElem_map,hp _ (aF hi)];rfl
   rw [e j z2_,e (j+1) hj];have hpw:=List.pairwise_iff_getElem.1 h3 j (j+1) z2_ hj z2_;have hf:=p_ L[j].1 L[j+1].1;unfold olt at hpw;have:=of_decide_eq_false hpw;omega
theorem sdN_put (hT:∀ t,timeE t=0->(timeN t).put.isSome=true) {s:Sd}(h:SdW s) (h2:sdR s=true):(sdN s).put.isSome=true:=by
 obtain⟨k1,k2,k3⟩:=nJ h2;have h0:=h2;unfold sdR at h0;simp only [Bool.and_eq_true] at h0;have hoid:(oidB s.type).isSome=true:=(nI h2).1;have hN:sdN s=.mk 0 16 true [] [oiN oSigned,.mk 2 0 true [] [inN s]]:=if_pos h2;have p0:(oiN oSigned).put.isSome=true:=gQ cP;have p1:=setF_put k3;have p2:(Nd.mk 0 2 false (intB (sdV s)) []).put.isSome=true:=by
  unfold sdV;split
  ·exact k_ 1 bT bT
  ·exact k_ 3 bT bT
 have p3:(encK s).all (·.put.isSome)=true:=by
  unfold encK;split<;>simp only [List.all_cons,List.all_nil,gQ hoid,kq (show(0:Int)<=0/\(0:Int)<=30 by decide),ji,Bool.and_true]
 have pc:∀ (t:Int) (l:LN),0<=t/\t<=30->l.all (·.put.isSome)=true->(optC t l).all (·.put.isSome)=true:=λt l ht hl=>by
  unfold optC;split
  ·rfl
  ·simp only [List.all_cons,List.all_nil,kq ht,hl,Bool.and_true]
 have p4:=pc 0 (s.certs.map crtN) bT (by rw [List.all_map,List.all_eq_true];exact λc hc=>oZ hT (k1 c hc));have p5:=pc 1 (s.crls.map clN) bT (by rw [List.all_map,List.all_eq_true];exact λc hc=>sF hT (k2 c hc));have p6:(Nd.mk 0 17 true [] (s.signers.map sgN)).put.isSome=true:=by
  rw [nZ,Bool.and_eq_true];refine⟨by rw [List.all_map,List.all_eq_true];exact λc hc=>rp (k3 c hc),?_⟩;have e:(s.signers.map sgN).map (λk=>k.put.getD [])=s.signers.map sbP:=by
   rw [List.map_map];refine List.map_congr_left λc hc=>?_;rw [sb_same (h.sgB c hc)];show(sgN c).put.getD []=sbR c;unfold sbR sgE;rw [if_pos (k3 c hc),if_neg bT]
  rw [e];exact ordB_of λj hj=>(of_decide_eq_true h0.2.2 j z2_).1
 rw [hN,ee];simp only [List.all_cons,List.all_nil,p0,kq (show(0:Int)<=0/\(0:Int)<=30 by decide),inN,sdK2,sdK1,sdK,ee,List.all_append,p1,p2,p3,p4,p5,p6,Bool.and_true]
abbrev dg (n:Nat):UInt8:=UInt8.ofNat (48+n)
theorem dgs2 (n:Nat) (h:n<100):dgs n 2=[dg (n / 10 % 10),dg (n % 10)]:=by
 unfold dgs;rw [dgo,if_pos z2_,dgo,if_pos z2_,oP z2_];rfl
theorem dgs4 (n:Nat) (h:n<10000):dgs n 4=[dg (n / 10 / 10 / 10 % 10),dg (n / 10 / 10 % 10),dg (n / 10 % 10),dg (n % 10)]:=by
 unfold dgs;rw [dgo,if_pos z2_,dgo,if_pos z2_,dgo,if_pos z2_,dgo,if_pos z2_,oP z2_];rfl
theorem dg_nat {n:Nat}(h:n<10):(dg n).toNat=48+n:=by
 simp [dg];omega
theorem kI {s:LB}{i a b:Nat}(ha:a<10) (hb:b<10) (h1:s.getD i 0=dg a) (h2:s.getD (i+1) 0=dg b):twoI s i=a*10+b:=by
 unfold twoI byteAt;rw [h1,h2,dg_nat ha,dg_nat hb,if_neg z2_];omega
theorem mom_ok {y:Int}{m d a b c:Nat}(hy:0<=y) (h1:1<=m/\m<=12) (h2:1<=d/\d<=monthI y m) (h3:a<24) (h4:b<60) (h5:c<60):momOk y (dgs m 2++dgs d 2++dgs a 2++dgs b 2++dgs c 2)=true:=by
 have hm:=dR y m;rw [dgs2 m z2_,dgs2 d z2_,dgs2 a z2_,dgs2 b z2_,dgs2 c z2_];unfold momOk;have d2:∀ {n:Nat},n<100->((n / 10 % 10:Nat):Int)*10+((n % 10:Nat):Int)=n:=λ_=>by omega
 refine aj ?_;simp only [List.cons_append,List.nil_append];rw [kI (i:=0) z2_ z2_ U U,kI (i:=2) z2_ z2_ U U,kI (i:=4) z2_ z2_ U U,kI (i:=6) z2_ z2_ U U,kI (i:=8) z2_ z2_ U U,
  d2 z2_,d2 z2_,d2 z2_,d2 z2_,d2 z2_]
 omega
theorem year_lt {t y:Int}(h0:-62167219200<=t/\t<=253402300799) (hy:0<=y) (h:dayO t<beforeI y):yearO t<y:=by
 obtain⟨h1,h2,h3⟩:=gE t h0;refine Classical.byContradiction λhn=>?_;have:beforeI y<=beforeI (yearO t):=by
  generalize yearO t=z at *;unfold beforeI;split<;>split<;>omega
 omega
theorem year_ge {t y:Int}(h0:-62167219200<=t/\t<=253402300799) (h:beforeI y<=dayO t):y<=yearO t:=by
 obtain⟨h1,h2,h3⟩:=gE t h0;refine Classical.byContradiction λhn=>?_;have:beforeI (yearO t+1)<=beforeI y:=by
  generalize yearO t=z at *;unfold beforeI;split<;>split<;>omega
 omega
theorem acc_eq (t y:Int) (w:Nat):accO t y w 5=dgs y.toNat w++(dgs (nthO t 0).toNat 2++dgs (nthO t 1).toNat 2++dgs (nthO t 2).toNat 2++dgs (nthO t 3).toNat 2++dgs (nthO t 4).toNat 2):=by
 simp only [accO,List.append_assoc]
theorem tail_ok (t:Int) (h0:-62167219200<=t/\t<=253402300799):momOk (yearO t) (dgs (nthO t 0).toNat 2++dgs (nthO t 1).toNat 2++dgs (nthO t 2).toNat 2++dgs (nthO t 3).toNat 2++dgs (nthO t 4).toNat 2)=true/\(dgs (nthO t 0).toNat 2++dgs (nthO t 1).toNat 2++dgs (nthO t 2).toNat 2++dgs (nthO t 3).toNat 2++dgs (nthO t 4).toNat 2).length=10:=by
 obtain⟨h1,h2,h3⟩:=gE t h0;obtain⟨d1,d2,d3,d4⟩:=date_in t h0;have d4:(dateO t).2.2<=monthI (yearO t) (dateO t).2.1:=d4;have hb:=dR (yearO t) (dateO t).2.1;have n0:nthO t 0=(dateO t).2.1:=rfl;have n1:nthO t 1=(dateO t).2.2:=rfl;have n2:nthO t 2=(t - -62167219200) % 86400 / 3600:=rfl;have n3:nthO t 3=(t - -62167219200) % 86400 / 60 % 60:=rfl;have n4:nthO t 4=(t - -62167219200) % 86400 % 60:=rfl;have e:(((nthO t 0).toNat:Nat):Int)=(dateO t).2.1:=by omega
 refine⟨mom_ok h1 z2_ (by rw [e];omega) z2_ z2_ z2_,?_⟩;rw [dgs2 _ z2_,dgs2 _ z2_,dgs2 _ z2_,dgs2 _ z2_,dgs2 _ z2_];rfl
theorem short_ok {t:Int}(h:-631152000<=t/\t<=2524607999):psOk (wrO t 2++[90])=true:=by
 have h0:-62167219200<=t/\t<=253402300799:=by omega
 obtain⟨ht,hl⟩:=tail_ok t h0;have hy1:1950<=yearO t:=year_ge h0 (by rw [show beforeI 1950=712223 from rfl];unfold dayO;omega);have hy2:yearO t<2050:=year_lt h0 z2_ (by rw [show beforeI 2050=748748 from rfl];unfold dayO;omega);unfold wrO;rw [if_pos U,show(2:Int).toNat=2 from rfl,acc_eq];rw [show(dateO t).1=yearO t from rfl];generalize dgs (nthO t 0).toNat 2++dgs (nthO t 1).toNat 2++dgs (nthO t 2).toNat 2++dgs (nthO t 3).toNat 2++dgs (nthO t 4).toNat 2=z at *;rw [dgs2 _ z2_];unfold psOk;have e1:psY ([dg ((yearO t % 100).toNat / 10 % 10),dg ((yearO t % 100).toNat % 10)]++z++[90])=yearO t:=by
  unfold psY;rw [kI (i:=0) z2_ z2_ U U,if_pos z2_];split<;>omega
 have e2:((([dg ((yearO t % 100).toNat / 10 % 10),dg ((yearO t % 100).toNat % 10)]++z++[90]:Txt).drop 2).take 10)=z:=by
  simp [<- hl]
 rw [e1,e2,ht,Bool.and_true];refine aj ⟨by simp [hl],?_⟩;unfold byteAt;rw [show 12=([dg ((yearO t % 100).toNat / 10 % 10),dg ((yearO t % 100).toNat % 10)]++z:Txt).length by simp [hl]];rw [bi,List.getElem?_append_right (aL _),Nat.sub_self];rfl
theorem long_ok {t:Int}(h0:-62167219200<=t/\t<=253402300799):plOk (wrO t 4++[90])=true:=by
 obtain⟨ht,hl⟩:=tail_ok t h0;have hy1:0<=yearO t:=(gE t h0).1;have hy2:yearO t<10000:=year_lt h0 z2_ (by rw [show beforeI 10000=3652425 from rfl];unfold dayO;omega);unfold wrO;rw [if_neg z2_,show(4:Int).toNat=4 from rfl,acc_eq];rw [show(dateO t).1=yearO t from rfl];generalize dgs (nthO t 0).toNat 2++dgs (nthO t 1).toNat 2++dgs (nthO t 2).toNat 2++dgs (nthO t 3).toNat 2++dgs (nthO t 4).toNat 2=z at *;rw [dgs4 _ z2_];generalize hn:(yearO t).toNat=n at *;unfold plOk;have e0:([dg (n / 10 / 10 / 10 % 10),dg (n / 10 / 10 % 10),dg (n / 10 % 10),dg (n % 10)]++z++[90]:Txt).length=15:=by simp [hl]
 have e1:twoI ([dg (n / 10 / 10 / 10 % 10),dg (n / 10 / 10 % 10),dg (n / 10 % 10),dg (n % 10)]++z++[90]) 0*100+twoI ([dg (n / 10 / 10 / 10 % 10),dg (n / 10 / 10 % 10),dg (n / 10 % 10),dg (n % 10)]++z++[90]) 2=yearO t:=by
  rw [kI (i:=0) z2_ z2_ U U,kI (i:=2) z2_ z2_ U rfl];omega
 have e2:((([dg (n / 10 / 10 / 10 % 10),dg (n / 10 / 10 % 10),dg (n / 10 % 10),dg (n % 10)]++z++[90]:Txt).drop 4).take 10)=z:=by
  simp [<- hl]
 rw [e0,e1,e2,ht,Bool.and_true,aj U,Bool.true_or,Bool.and_true];refine aj ⟨by omega,by omega,?_⟩;unfold byteAt;rw [show 15-1=([dg (n / 10 / 10 / 10 % 10),dg (n / 10 / 10 % 10),dg (n / 10 % 10),dg (n % 10)]++z:Txt).length by simp [hl]];rw [bi,List.getElem?_append_right (aL _),Nat.sub_self];rfl
theorem hT (t:Int) (h:timeE t=0):(timeN t).put.isSome=true:=by
 unfold timeE at h;unfold timeN;by_cases h1:(shortO t).isSome=true
 ·rw [if_pos h1];unfold shortO at h1 |-
  split at h1
  ·cases h1
  rename_i hh;rw [if_neg hh];exact jg bT (by rw [r7 rfl];exact short_ok z2_)
 rw [if_neg h1] at h |-
 by_cases h2:(longO t).isSome=true
 ·rw [if_pos h2];unfold longO at h2 |-
  split at h2
  ·cases h2
  rename_i hh;rw [if_neg hh];exact jg bT (by rw [qZ rfl];exact long_ok z2_)
 rw [if_neg h2] at h;omega
theorem kSd_w:SdW kSd:=sdw_of (by decide +kernel)
theorem kSd_r:sdR kSd=true:=by kernel_rfl
theorem tf:setF []=(.mk 0 17 true [] [],0):=by
 rcases pw [] with ⟨⟨y,hy,_⟩,_,_⟩|⟨l0,L,h1,h2,h3,h4,h5⟩
 ·cases hy
 ·have e:=h1.eq;subst e;rw [List.perm_nil.1 h2] at h4;exact Prod.ext h4 h5
theorem kSd_n:sdN kSd=kTop:=by
 unfold sdN;rw [if_pos kSd_r];show Nd.mk 0 16 true [] [oiN oSigned,.mk 2 0 true [] [.mk 0 16 true [] [.mk 0 2 false (intB (sdV kSd)) [],(setF []).1,kCon,kSet]]]=kTop;rw [tf,show sdV kSd=1 by kernel_rfl]
theorem u9:FnD prog 10 [.st kSd.enc] (.b true):=(iw kSd kSd_w).to (by rw [kSd_r])
theorem kwrite_g:FnD prog 6 [.st kSd.enc] (.tup [.bs knB,.i 0]):=(ja kSd kSd_w).to (by
 unfold sdB sdE;rw [if_pos kSd_r,if_pos kSd_r,kSd_n,kTop_wr])
theorem kof_g:FnD prog 56 [.nd kTop] (.tup [.st kSd.enc,.b true]):=by
 have q1:FnD prog 97 [.nd kTop] (.b true):=(@rD kTop (Nat.le_trans kTop_sz bT)).to (by rw [show kTop.put.isSome=true by kernel_rfl]);have q2:FnD prog 98 [.nd kTop,.i 2,.i 2] (.b true):=(jE kTop 2 2).to (by rw [show isSeqB kTop 2 2=true by kernel_rfl]);have q3:FnD prog 99 [.nd kMid,.i 0,.b true] (.b true):=(iy kMid 0 true).to (by rw [show isCtxB kMid 0 true=true by kernel_rfl]);have q4:FnD prog 100 [.nd (oiN oSigned)] (.tup [.s oSigned,.b true]):=(lx (oiN oSigned) (Nat.le_trans (dZ _) bT)).to (by rw [show cOid (oiN oSigned)=(oSigned,true) by kernel_rfl]);have q5:FnD prog 98 [.nd kIn,.i 4,.i 6] (.b true):=(jE kIn 4 6).to (by rw [show isSeqB kIn 4 6=true by kernel_rfl]);have q6:=u9;have q7:FnD prog 102 [.nd kInt] (.tup [.i 1,.b true]):=(@oG kInt (by simp only [Nd.sz,Nd.szL];have:(intB 1).length=1:=cP;omega)).to (by rw [show kInt.intV=1 by kernel_rfl,show kInt.intOk=true by kernel_rfl]);have q8:=kl kSet (by decide +kernel);have q10:FnD prog 26 [.st kSd.enc] (.i 1):=(hJ kSd kSd_w).to (by rw [show sdV kSd=1 by kernel_rfl]);have q11:FnD prog 27 [.st kSd.enc] (.nd kSet):=(i6 kSd bT).to (by rw [show digL kSd=[] from rfl,tf]);have q9:FnD prog 103 [.bs kSet.wr.1,.bs kSet.wr.1] (.b true):=equal_d.to (by rw [aj rfl]);refine aE func56 U ntmps56 U (λe=>?_);refine W ?_;refine Cp (os1:=[]) U U U U U U U kparts_b U ?_;rintro _ _ ⟨rfl,rfl⟩;refine W ?_;exact Rt U U U
theorem kparse_g:FnD prog 16 [.bs knB] (.tup [.st kSd.enc,.b true]):=by
 have ho:=kof_g;have hr:FnD prog 55 [.bs knB] (.tup [.nd kTop,.st (Flt.enc ⟨0,0⟩)]):=by
  have h:=@read_d knB;have e:rdTop knB=(kTop,0,0):=nS (x:=kTop) (by rw [kTop_wr]);rw [e] at h;exact h
 refine aE func16 U ntmps16 U (λe=>?_);refine W ?_;exact Rt U U U
theorem u_:FnD prog 5 [] (.b true):=by
 obtain⟨B,hw,hp,hl,h1⟩:∃ B:Txt,FnD prog 6 [.st kSd.enc] (.tup [.bs B,.i 0])/\FnD prog 16 [.bs B] (.tup [.st kSd.enc,.b true])/\(B.length:Int)=42/\((B.getD 1 0).toNat:Int)=40:=⟨knB,kwrite_g,kparse_g,knB_len,knB_1⟩;have hr1:=u9;have hr0:FnD prog 10 [.st (Sd.enc ⟨[],false,[],[],[],[]⟩)] (.b false):=(iw _ (sdw_of (by decide +kernel))).to (by rw [show sdR ⟨[],false,[],[],[],[]⟩=false by kernel_rfl]);have hput:=cput_d [49,46,50,46,51] [5,0] bT;have hget:FnD prog 18 [.sl 2 Fe.enc [⟨[49,46,50,46,51],[[5,0]]⟩],.s [49,46,50,46,51]] (.tup [.sl 1 bE [[5,0]],.b true]):=cget_d [⟨[49,46,50,46,51],[[5,0]]⟩] [49,46,50,46,51] bT (by intro f hf;rw [List.mem_singleton] at hf;subst hf;exact⟨by decide,by decide⟩);refine aE func5 U ntmps5 U (λe=>?_);refine W ?_;refine Pl 0 U ?_;refine W ?_;refine Pl 2 U ?_;refine W ?_;refine Pl 2 U ?_;refine W ?_;refine Bg U U (λ_=>?_) (λh=>absurd hl h);refine W ?_;refine Bg U U (λ_=>?_) (λh=>absurd h1 h);refine W ?_;exact Rt U U U
instance:Cn prog 5 (type_of% @u_):=⟨@u_⟩
theorem cmsrights_d (s:Sd) (hB:SdD s):FnD prog 3 [.st s.enc] (.b true):=by
 refine aE func3 U ntmps3 U (λe=>?_);refine W ?_;refine Ce U U (heavy_e s hB) (λd' hd=>?_);obtain⟨b,rfl,hb⟩:=hd;cases b
 ·have hw:=sdw_of (hb U).1;have c1:=ja s hw;have c2:=rswrite_d hT s hw;have c3:=ld s hw;have c4:=ti hT s hw;have c5:=iw s hw;have c6:=jb s hw;obtain⟨e1,e2⟩:=v_ (sdN_put hT hw);rw [<- e1,<- e2] at c2;rw [<- mR hT hw] at c6;have c7:=iH (sdB s) (sdB s);have c8:=@ru (sdN s) (sdN s);rw [(Nd.beq_eq _ (sdN s) (sdN s) (aL _)).2 rfl] at c8;rw [aj rfl] at c7;generalize sdN s=N at *;generalize sdB s=B at *;generalize sdE s=E at *;generalize (if sdR s=true then(0:Int) else 60)=G at *;generalize sdR s=R at *;cases R
  all_goals
   refine W ?_;rw [show decide (E=E)=true from aj rfl];refine W ?_;rw [show decide (G=G)=true from aj rfl];refine W ?_;exact Rt U U U
 ·exact Z
end Go.Proofs.YtojokloclmcloaaGreatDoor
