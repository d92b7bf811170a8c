/- Parts. -/
import Derived.Test.YtilafeifbaaagaaGreatDoorR3
set_option maxRecDepth 100000
set_option maxHeartbeats 8000000
set_option linter.unusedSimpArgs false
set_option linter.unusedVariables false
set_option linter.constructorNameAsVariable false
namespace Go.Proofs.YtilafeifbaaagaaGreatDoor
open Go.Proofs.Tryz
open Go Go.RowKit
theorem m11 {p:Prop}(u:p:=by
 refine aO (aK (aV (J.held ([]) 18 dY U (λCR=>?_))));refine Tk 0 U (aY U) ?_;refine Tk 1 U (aY U) ?_;refine Tk 2 U (aY U) ?_;refine Tk 3 U (aY U) ?_;refine Tk 4 U GP ?_;refine Tk 5 U (aY U) ?_;refine Tk 6 U (aY U) ?_;refine Tk 7 U GP ?_;refine Tk 8 U (cv (m:=j-1) fm U U xE xE) ?_;refine Tk 10 U (aY U) ?_;refine Tk 11 U (aY U) ?_;refine Tk 12 U (cv (m:=j) fm U U xE xE) ?_;refine JH.PL 9 13 cq U U ?_ ?_
 ·unfold One;refine aA (dK dw U zV d2.2) U ?_;refine aj ⟨(Dr CR),?_⟩;refine Ta 13 U ?_;unfold One;refine aA (dK dw U zV d1.2) U ?_;refine aj ⟨(Dr CR),?_⟩;refine Tk 14 U (cv (m:=j) fm U U xE xE) ?_;refine Ta 15 U ?_;unfold One;refine JL.Dh dw U U (CF.one d2.1) d2.1.len zW d1.2 ?_;refine aj ⟨(Dr CR),?_⟩;refine Tk 16 U (cv (m:=j-1) fm U U xE xE) ?_;refine Ta 17 U ?_;unfold One;refine JL.Dh dw U U (CF.one d1.1) d1.1.len zW (by rw [iu (by rw [d2.1.len];exact d1.2)];exact d2.2) ?_;refine aj ⟨(Dr CR),?_⟩;refine dJ cq ?_;refine Rg (Ru 1 U (aA GP U ?_));refine Ru 1 U (aj (⟨_,?_,_,?_,⟨_,j-1,_,PZ oz q j (j-1),U,U,U,U,⟨by assumption,by omega,hCq.swap V' Rz,.step hSq xE xE xE xE V' Rz,pJ (a:=a) (i:=i) (j:=j) (r:=r) xE xE xE hE,.inr yJ⟩⟩⟩))
  ·omega
  exact IE
 unfold One;refine aA (dK dw U zV d1.2) U ?_;refine aj ⟨(Dr CR),?_⟩;refine Ta 9 U ?_;unfold One;refine aA (dK dw U zV d2.2) U ?_;refine aj ⟨(Dr CR),?_⟩;refine Tk 14 U (cv (m:=j) fm U U xE xE) ?_;refine Ta 15 U ?_;unfold One;refine JL.Dh dw U U (CF.one d2.1) d2.1.len zW d1.2 ?_;refine aj ⟨(Dr CR),?_⟩;refine Tk 16 U (cv (m:=j-1) fm U U xE xE) ?_;refine Ta 17 U ?_;unfold One;refine JL.Dh dw U U (CF.one d1.1) d1.1.len zW (by rw [iu (by rw [d2.1.len];exact d1.2)];exact d2.2) ?_;refine aj ⟨(Dr CR),?_⟩;refine dJ cq ?_;refine Rg (Ru 1 U (aA GP U ?_));refine Ru 1 U (aj (⟨_,?_,_,?_,⟨_,j-1,_,PZ oz q j (j-1),U,U,U,U,⟨by assumption,by omega,hCq.swap V' Rz,.step hSq xE xE xE xE V' Rz,pJ (a:=a) (i:=i) (j:=j) (r:=r) xE xE xE hE,.inr yJ⟩⟩⟩))
 ·omega
 exact IE):p:=u
theorem m18 {p:Prop}(u:p:=by
 first|(exfalso;omega)|(rw [xD (show n=384 by omega)];exact bM (bL rfl rfl dv zV eE) ⟨_,_,_,_,_,_,_,rfl⟩)|(rw [xC (show ¬ n=384 by omega),xD (show n=512 by omega)];exact bM (bL rfl rfl dv zV eE) ⟨_,_,_,_,_,_,_,rfl⟩)|(rw [xC (show ¬ n=384 by omega),xC (show ¬ n=512 by omega)];exact bM (bL rfl rfl dv zV eE) ⟨_,_,_,_,_,_,_,rfl⟩)):p:=u
theorem m20 {p:Prop}(u:p:=by
 refine ba [(0,_)] y9 ?_;refine Sr (bp iQ U (λb1=>?_));refine aj (Sr (Ru 1 U (cI PF U (pR zL hk hz) HC U ?_)));rintro _ h2 Lo2 zH ⟨oa,oc,oxs,rfl,rfl,hC⟩
 replace hk:=hk.mono zH
 replace hT:=hT.mono zH
 refine aZ ci U U zW lx ly Dn ?_;exact aj (dm ⟨_,[.row _ _ _ _ _ _],_,(bL U U ci zV Dn),.cons xy .nil,_,U,_,_,_,U,U,hC⟩)):p:=u
theorem m28 {p:Prop}(u:p:=by
 refine W ?_;refine Rt U U ?_;rw [bad (by simp [Kx,kd];simp_all) hl];rfl):p:=u
theorem m33 {p:Prop}(u:p:=by
 unfold One;refine JL.skip U U U ?_;refine aj ⟨(Dr CR),?_⟩;refine Ta 14 U ?_;unfold One;refine JL.skip U U U ?_;refine aj ⟨(Dr CR),?_⟩;refine Ts 15 U U U ?_;refine Tk 16 U (xG.JP U U) ?_;refine dJ cq ?_;refine J.Df U ?_;refine bJ (Rg (Ru 1 U (aA Fc U ?_)));refine Ru 1 U (aj (⟨_,?_,_,?_,⟨_,i+1,zs,q,U,U,U,U,⟨by assumption,by omega,hCq,hSq,lQ oz hO xE xE Ld G4 kw hE⟩⟩⟩))
 ·omega
 exact Du):p:=u
theorem m37 {p:Prop}(u:p:=by
 refine aj ⟨(Dr CR),?_⟩;refine Tk 9 U (by first|exact bY iA rfl|exact bH iA rfl) ?_;refine Ta 10 U ?_;unfold One;refine bj dG U U U zW iR ?_;refine aj ⟨(Dr CR),?_⟩;refine dJ cq ?_;refine Rg (Ru 1 U (aA Fc U ?_));refine Ru 1 U (aj (⟨_,?_,_,?_,⟨i+1,_,_,_,_,U,U,U,U,⟨by omega,by simp [GU],by assumption⟩⟩⟩))
 ·omega
 exact IE):p:=u
theorem m43 {p:Prop}(u:p:=by
 refine⟨g+1,by omega,⟨by omega,e2⟩,y9,?_⟩;rw [e1];exact y9):p:=u
theorem m59 {p:Prop}(u:p:=by
 have hik:i=k:=xE;have ho2:out=E7 (d32 l) k:=(by rw [ho,hik,DX];rfl);have hkl:=jn (d32 l) k;subst ho2;refine JL.LZ (R:=DJ) (l:=E7 (d32 l) k) zW cJ xE xE (λh9 FT MC=>?_);exact Ru 3 U (aj (bM (B7.two U U U) ⟨_,_,by rw [hkl],MC⟩))):p:=u
theorem m79 {p:Prop}(u:p:=by
 injection h3 with h3;injection h3 with h7 h8;injection h8 with h8 h9;have hq:q1=stop:=by omega
 exact⟨[],by simp [h7],by simp [Nd.CO],by omega,λab lo=>by simp [Nd.B0,Aq,hq]⟩):p:=u
theorem m80 {p:Prop}(u:p:=by
 exact Sr (Ru 1 U (aj (cn (aW U U) (by unfold B3;rw [xD yJ]) U)))):p:=u
theorem m84 {p:Prop}(u:p:=by
 rw [hke] at *;refine Ru 1 U (aj (Rg (Ru 1 U (aA Fc U ?_))));refine Ru 1 U (aj (⟨_,?_,_,?_,⟨_,i+1,_,_,_,U,U,U,U,⟨by assumption,by omega,by assumption⟩⟩⟩))
 ·omega
 exact Du):p:=u
theorem m86 {p:Prop}(u:p:=by
 refine bJ (Rg (Ru 1 U (aA Fc U ?_)));refine Ru 1 U (aj (⟨_,?_,_,?_,⟨_,i+1,zs,q,U,U,U,U,⟨by assumption,by omega,hCq,hSq,lQ oz hO xE xE Ld G4 kw hE⟩⟩⟩))
 ·omega
 exact Du):p:=u
theorem m95 {p:Prop}(u:p:=by
 exact aO (Sr (Ru 1 U (aj (cn (aW U U) (by unfold B3;rw [xC xE,xD yJ]) U))))):p:=u
theorem m96 {p:Prop}(u:p:=by
 refine aO (aV (Rg (Ru 1 U (aA GP U ?_))));refine Ru 1 U (aj (⟨_,?_,_,?_,⟨n-1,U,U,U,U,⟨by omega,by rw [he,VT _ _ xE]⟩⟩⟩))
 ·omega
 exact IE):p:=u
theorem m100 {p:Prop}(u:p:=by
 exact Ru 7 U (Nk [2] U (cn (aW U U) (congrArg Value.bool (by first|exact y7.2 xE|exact(ah (by have:=oW (l:=l) xE;omega)).symm)) U))):p:=u
theorem m102 {p:Prop}(u:p:=by
 have hm:os.toArray.map a.eval=args.toArray:=by simp [dI s ha]
 simp [execOp,resolve,hm,s.eval hf,Deferred.ofValue,invoke,eF hF]):p:=u
theorem m104 {p:Prop}(u:p:=by
 have P8:j=0:=xE;rw [P8,GY,G8,G8] at he;exact bJ (Kp [] U (Sr (Ru 1 U (aj (cn (aW U U) (by unfold B3;rw [xC xE,xC xE]) U)))))):p:=u
theorem m110 {p:Prop}(u:p:=by
 refine aO (Rg (Ru 1 U (aA GP U ?_)));refine Ru 1 U (aj (⟨_,?_,_,?_,⟨i,U,U,U,U,⟨by omega,by omega⟩⟩⟩))
 ·omega
 exact IE):p:=u
theorem m121 {p:Prop}(u:p:=by
 have hfl:(Nd.mk c t k bs ks).BE=[]:=xC (by rw [RD];decide);rw [RD,hfl];exact bM (B7.two U U U) ⟨_,_,U,bA⟩):p:=u
theorem m155 {p:Prop}(u:p:=by
 exact Vr (bad 32 (by unfold ES;rw [xC xE,xC xE,xC xE,xC xE,xD (by rw [hv,hw];omega)]))):p:=u
theorem m193 {p:Prop}(u:p:=by
 refine aA (de XO U) U ?_;exact Ru 1 U (Nk [2] U (bM (aW U U) ⟨_,_,U⟩))):p:=u
theorem m196 {p:Prop}(u:p:=by
 exact absurd U h):p:=u
abbrev Gr:=@Int.natCast_pow
abbrev Ba:=@List.getElem_map
abbrev Ed:=@UInt32.toNat_ofNat'
abbrev G8:=@Nat.div_one
abbrev DO:=@Nat.pow_add
abbrev MJ:=@Nat.mul_le_mul_left
abbrev Vo:=@Int.mul_le_mul_of_nonneg_right
abbrev FC:=@Int.emod_add_mul_ediv
abbrev xY:=@List.length_take_le'
abbrev HE:=@List.pairwise_iff_getElem
section
attribute [local irreducible] Nat.sub
theorem SD (n:Nat):(G1 n).length<=11:=by
 have:=tv [n];simpa [enc] using this
theorem QA (n:Nat) (hn:n<18446744073709551616):US prog 237 5 kB [.v (.int .u64 (n:Int))] (G1 n):=by
 have hb:=SD n;have rm:Rm:=⟨⟩;refine US.intro func237 U ntmps237 U (λe=>?_);refine V ?_;refine Lt (T:=Qs 1 0) trR (γ:=Nat×yG) [] (λg=>g.1<18446744073709551616/\G1 n=O5 g.1++g.2) (λg=>g.1) (λ(m,_)=>[(0,.d (.v (.int .u64 (m:Int)))),(3,.row 0)]) (λ(_,l)=>[(0,.row 5 (.bs l))]) (n / 128,_) ⟨by omega,U⟩ U ?_ Fg Gt;rintro⟨m,out⟩ ⟨hm,he⟩;dsimp only at hm he;rw [he] at hb;simp only [aF] at hb;refine Vi (λc=>?_) (λc=>?_)
 ·refine V ?_;refine⟨_,U,(m / 128,_),by dsimp only;omega,⟨by dsimp only;omega,?_⟩,Fg,Gt⟩;dsimp only;have h1:m<128 ^ 10:=by simp only [Nat.reducePow];omega
  rw [he,pD m h1 xE,show((m:Int) % 128+128).toNat=m % 128+128 by omega];simp
 ·refine V ?_;refine RtW U U U ?_;have hm0:m=0:=by omega
  rw [he,hm0];rfl
theorem k8 (s:yG) (hl:s.length<=10000000000):yq prog 236 [.s s] (.zZ [.sl 1 KD (Hb s).1,.b (Hb s).2]):=by
 have no:zj s []=none->yR [.sl 1 KD [],.b false]=.zZ [.sl 1 KD (Hb s).1,.b (Hb s).2]:=λh=>by unfold Hb;rw [h];rfl
 have rm:Rm:=⟨⟩;refine an func236 U ntmps236 U (λe=>?_);refine V ?_;refine Rn (kS 1 KD) 4 213 U U ?_;refine Lk (γ:=Nat×Nat×List Nat) [0] (λ(i,fr,acc)=>i<=s.length+1/\fr<=i/\acc.length<=i/\(∀ x∈acc,x<9223372036854775808)/\(i<=s.length->zj s []=(zj (s.drop i) ((s.drop fr).take (i-fr))).map (acc++·))/\(s.length<i->zj s []=some acc)) (λ(i,_)=>s.length+1-i) (λ(i,fr,_)=>[(4,.row 0),(5,.d (.i fr)),(6,.d (.i i))]) (λ(_,_,l)=>[(0,.row 213 (.sl 1 KD l))]) (0,0,[]) ⟨by omega,by omega,by simp,by simp,λ_=>by simp,λhh=>by omega⟩ U ?_;rintro⟨i,fr,acc⟩ ⟨hi,hfr,hal,hx,hq1,hq2⟩;refine Vi (λc=>?_) (λc=>?_)
 ·refine Sb ?_;refine Jb 25 [0,4,5,6] (decide (i<s.length/\xF s i≠46)) U Yj ?_;have c2:=md ((s.drop fr).take (i-fr)) (by simp only [aS,aM];omega);refine Vi (λq=>?_) (λq=>?_)
  ·refine V ?_;exact⟨(i+1,fr,acc),by dsimp only;omega,⟨by omega,by omega,by omega,hx,λ_=>by rw [hq1 xE,sX s _ i xE xE,Zy s fr i xE hfr],λhh=>by omega⟩,Fg,Gt⟩
  have hq:=hq1 xE;refine Vi (λq2=>?_) (λq2=>?_)
  ·have P4:=TL (s:=(s.drop fr).take (i-fr)) (by simpa using q2);refine Vr (no ?_);rw [hq];rcases A9 i s.length with yJ|CK
   ·rw [nA s _ i yJ xE,P4];rfl
   ·rw [yw CK,zj,P4];rfl
  ·obtain⟨h1,h2⟩:=TK (s:=(s.drop fr).take (i-fr)) (by simpa using q2);refine V ?_;refine⟨(i+1,i+1,_),by dsimp only;omega,⟨by omega,by omega,?_,?_,λhh=>?_,λhh=>?_⟩,Fg,Gt⟩
   ·simp;omega
   ·intro y hy;rcases Bo.1 hy with hy|hy
    ·exact hx y hy
    ·simp at hy;subst hy;exact h2
   ·rw [hq,nA s _ i xE xE,h1];simp only [DX,EZ,Option.map_map];congr 1;funext z;simp
   ·rw [hq,yw xE,zj,h1];rfl
 ·have hnl:Hb s=(acc,Fp acc):=by unfold Hb;rw [hq2 xE]
  have e0:acc.getD 0 default=acc.getD 0 0:=rfl;have e1:acc.getD 1 default=acc.getD 1 0:=rfl;refine Pb 0 U ?_;refine Sb ?_;refine Jb 9 [4] (decide (2<=acc.length/\(acc.getD 0 0=2/\acc.getD 1 0<9223372036854775728\/acc.getD 0 0<2/\acc.getD 1 0<40))) U Yj ?_;refine Vr ?_;rw [hnl,v_];rfl
instance:Cn prog 236 (type_of% @k8):=⟨@k8⟩
end
section
attribute [local irreducible] Nat.sub
theorem ot (s:yG) (hl:s.length<=10000000000):yq prog 150 [.s s] (.zZ [.bs ((Ai s).getD []),.i (if(Ai s).isSome then 0 else 20)]):=by
 obtain⟨L,ok,hL⟩:∃ L ok,Hb s=(L,ok):=⟨_,_,U⟩;have c:=k8 s hl;rw [hL] at c;dsimp only at c;have hB:Ai s=if ok then some (enc ((40*L.getD 0 0+L.getD 1 0)::L.drop 2)) else none:=by
  unfold Ai;unfold Hb at hL;cases hn:zj s [] with
  |none=>rw [hn] at hL;simp only [zu] at hL;rw [<- hL.2];rfl
  |some l=>rw [hn] at hL;simp only [zu] at hL;obtain⟨rfl,rfl⟩:=hL;rfl
 have zt:ok=true->2<=L.length/\(L.getD 0 0=2/\L.getD 1 0<9223372036854775728\/L.getD 0 0<2/\L.getD 1 0<40)/\L.length<=s.length+1/\(∀ i,L.getD i 0<9223372036854775808):=λhk=>by
  unfold Hb at hL;cases hn:zj s [] with
  |none=>rw [hn] at hL;simp only [zu] at hL;rw [<- hL.2] at hk;cases hk
  |some l =>
   rw [hn] at hL;simp only [zu] at hL;obtain⟨rfl,rfl⟩:=hL;rw [v_] at hk;have:=xV hk;refine⟨this.1,this.2,iw s [] l hn,λi=>?_⟩;rcases A9 i l.length with hi|hi
   ·rw [show l.getD i 0=l[i] by simp [hi]];exact gZ s [] l hn _ (ax hi)
   ·rw [show l.getD i 0=0 by simp [hi]];decide
 have rm:Rm:=⟨⟩;refine an func150 U ntmps150 U (λe=>?_);refine Vi (λq=>?_) (λq=>?_)
 ·refine Vr ?_;rw [hB,show ok=false by simpa using q];rfl
 ·have hk:ok=true:=by simpa using q
  obtain⟨h2,h3,h5,h4⟩:=zt hk;have e0:L.getD 0 default=L.getD 0 0:=rfl;have e1:L.getD 1 default=L.getD 1 0:=rfl;refine V ?_;refine Xrw U U (QA (40*L.getD 0 0+L.getD 1 0) xE) U ?_;refine V ?_;refine Lk (γ:=Nat×yG) [4] (λ(i,l)=>2<=i/\i<=L.length/\l=enc ((40*L.getD 0 0+L.getD 1 0)::(L.drop 2).take (i-2))) (λ(i,_)=>L.length-i) (λ(i,_)=>[(6,.row 0),(7,.d (.i (i:Int)))]) (λ(_,l)=>[(0,.row 5 (.bs l))]) (2,G1 (40*L.getD 0 0+L.getD 1 0)) ⟨by omega,by omega,by simp only [DX,EZ,enc,Ak]⟩ U ?_;rintro⟨i,l⟩ ⟨J8,hi,hl⟩;have hel:=tv ((40*L.getD 0 0+L.getD 1 0)::(L.drop 2).take (i-2));rw [<- hl] at hel;simp only [aw,aS,aM] at hel;have e2:L.getD i default=L.getD i 0:=rfl;refine Vi (λq2=>?_) (λq2=>?_)
  ·have EW:=wE L i J8 xE;have Nz:=SD (L.getD i 0);refine V ?_;refine Crw U U (QA (L.getD i 0) (by have:=h4 i;omega)) U ?_;refine V ?_;exact⟨(i+1,l++G1 (L.getD i 0)),by dsimp only;omega,⟨by omega,by omega,by rw [EW,hl,<- xX,xh];simp only [enc,Ak]⟩,Fg,Gt⟩
  ·refine Vr ?_;have Kt:l=enc ((40*L.getD 0 0+L.getD 1 0)::L.drop 2):=by rw [hl,aD (by rw [aM];omega)]
   rw [hB,hk,Kt];rfl
instance:Cn prog 150 (type_of% @ot):=⟨@ot⟩
end
section
attribute [local irreducible] Nat.sub
theorem oq (l:yG) (hb:l.length<=100000000):yq prog 87 [.bs l] (.zZ [.s ((AK l).getD []),.i (if(AK l).isSome then 0 else 20)]):=by
 rw [Tq];have no:LX l=none->yR [.s [],.i 20]=.zZ [.s (((LX l).map DR).getD []),.i (if((LX l).map DR).isSome then 0 else 20)]:=λh=>by rw [h];rfl
 refine an func87 U ntmps87 U (λe=>?_);refine V ?_;refine Lk (γ:=Nat×Nat×Nat×List Nat) [0] (λ(i,n,long,acc)=>i<=l.length/\n<128 ^ long/\long<=9/\(DR acc).length<=42*i/\DK l 0 0=(DK (l.drop i) n long).map (acc++·)/\(∀ x∈acc,x<9223372036854775808)) (λ(i,_)=>l.length-i) (λ(i,n,long,acc)=>[(4,.d (.s (DR acc))),(5,.d (.v (.int .u64 (n:Int)))),(6,.d (.i (long:Int))),(7,.d (.i (i:Int)))]) (λ_=>[]) (0,0,0,[]) ⟨by omega,by simp,by omega,by simp [DR],by simp,by simp⟩ U ?_;rintro⟨i,n,long,acc⟩ ⟨hi,hn,hlg,O3,hq,hx⟩;refine Vi (λc=>?_) (λc=>?_)
 ·have DW:=wL l i n long xE;have hbt:=bn l i;have hbe:xF l i=(l.getD i 0).toNat:=rfl;rcases A9 8 long with h8|h8
  ·refine V ?_;refine aI (yi.b0j U U U U) ?_;refine V ?_;refine aI (yi.b1w U U U U) ?_;refine Vg (λg=>?_) (λg=>by exfalso;omega);refine Vr (no ?_);unfold LX;rw [hq,DW,xD (.inl xE)];rfl
  have b2F:(128:Nat) ^ long<=72057594037927936:=xJ (yf yD h8) yD;obtain⟨N,hN⟩:∃ N,N=n*128+xF l i % 128:=⟨_,U⟩;have b2n:N<9223372036854775808:=by omega
  rw [xC xE,<- hN] at DW;refine Sb ?_;refine Js [0,4,6,7] [(5,.d (.v (.int .u64 (N:Int))))] U ?_ ?_
  ·exact m89
  refine Sb ?_;refine Vg (λg=>by exfalso;omega) (λg=>?_);refine Vi (λg2=>by exfalso;omega) (λg2=>?_);refine Vi (λg3=>?_) (λg3=>?_)
  ·refine V ?_;exact⟨(i+1,N,long+1,acc),by dsimp only;omega,⟨by omega,by rw [yh];omega,by omega,by omega,by rw [hq,DW,xD xE],hx⟩,Fg,trivial⟩
  rw [xC xE] at DW;refine V ?_;refine Jm (γ:=yG×Nat) (λ(s',m)=>[(0,.d (.bs l)),(4,.d (.s s')),(5,.d (.v (.int .u64 (m:Int)))),(7,.d (.i (i:Int)))]) (λ_=>[]) (λ(s',m)=>s'.length<=42*i+21/\m<=N/\s'++[46]++CS m 1=DR (acc++[N])) ?_ ?_
  ·refine Ci U (λg4=>?_) (λg4=>?_)
   ·have ha0:acc=[]:=(u7 acc).1 g4;refine Vi (λg5=>?_) (λg5=>?_)
    ·have c2:yq prog 190 [.v (.int .u64 ((N:Int) / 40)),.i 1] (.s (CS (N / 40) 1)):=oA (N / 40) 1 xE xE;have P_:=cG (N / 40) 1;refine V ?_;exact⟨(CS (N / 40) 1,N-40*(N / 40)),⟨by omega,by omega,by rw [ha0,xP,DR,show min (N / 40) 2=N / 40 by omega];simp [BK]⟩,Fg,trivial⟩
    ·have c2:yq prog 190 [.v (.int .u64 2),.i 1] (.s (CS 2 1)):=oA 2 1 xE xE;have P_:=cG 2 1;refine V ?_;exact⟨(CS 2 1,N-40*2),⟨by omega,by omega,by rw [ha0,xP,DR,show min (N / 40) 2=2 by omega];simp [BK]⟩,Fg,trivial⟩
   ·have ha0:acc≠[]:=λh=>g4 ((u7 acc).2 h);refine V ?_;exact⟨(DR acc,N),⟨by omega,by omega,(T1 _ _ ha0).symm⟩,Fg,trivial⟩
  ·rintro⟨s',m⟩ ⟨h1,h2,h3⟩;have P_:=cG m 1;have c3:=oA m 1 xE xE;refine V ?_;rw [h3];exact⟨(i+1,0,0,acc++[N]),by dsimp only;omega,⟨by omega,by simp,by omega,by rw [<- h3];simp only [aF,aw,ay];omega,by rw [hq,DW,Option.map_map];congr 1;funext z;simp,λy hy=>by
    rcases Bo.1 hy with hy|hy
    ·exact hx y hy
    ·simp at hy;omega⟩,Fg,trivial⟩
 ·have hrg:DK l 0 0=some acc:=by rw [hq,yw xE,DK];simp
  have hro:LX l=if acc≠[]/\enc acc=l then some acc else none:=by unfold LX;rw [hrg]
  have c2:=ot (DR acc) xE;rw [va acc hx] at c2;by_cases ha:acc=[]
  ·rw [xD ha] at c2;have c3:yq prog 150 [.s (DR acc)] (.zZ [.bs [],.i 20]):=c2;clear c2;refine Vr (no ?_);rw [hro,xC (λk=>k.1 ha)]
  ·rw [xC ha] at c2;have c3:yq prog 150 [.s (DR acc)] (.zZ [.bs (enc acc),.i 0]):=c2;clear c2;refine Vi (λg=>?_) (λg=>?_)
   ·refine Vr (no ?_);rw [hro,xC (λk=>g k.2)]
   ·refine Vr ?_;rw [hro,xD ⟨ha,g⟩];rfl
instance:Cn prog 87 (type_of% @oq):=⟨@oq⟩
end
instance:Cn prog 316 (type_of% @Qf):=⟨@Qf⟩
instance:Cn prog 317 (type_of% @uw):=⟨@uw⟩
instance:Cn prog 318 (type_of% @WS):=⟨@WS⟩
instance:Cn prog 195 (type_of% @qx):=⟨@qx⟩
instance:Cn prog 196 (type_of% @ux):=⟨@ux⟩
theorem Ox (t:Int) (l:yG) (hb:l.length<=100000000):yq prog 258 [.i t,.bs l] (.b (AJ t l)):=by
 have e0:xF l 0=(l.getD 0 0).toNat:=rfl;have e1:xF l 1=(l.getD 1 0).toNat:=rfl;have b0:=bn l 0;have b1:=bn l 1;refine an func258 U ntmps258 U (λe=>?_);refine V ?_;refine Ci U (λt1=>?_) (λt1=>?_)
 ·rw [VJ t1,e0];exact Y
 refine V ?_;refine Ci U (λt2=>?_) (λt2=>?_)
 ·rw [m6 (.inl t2)];unfold AY;rw [e0,e1];exact Y
 refine V ?_;refine Ci U (λt10=>?_) (λt10=>?_)
 ·rw [m6 (.inr t10)];unfold AY;rw [e0,e1];exact Y
 refine V ?_;refine Ci U (λt3=>?_) (λt3=>?_)
 ·rw [qd t3];refine V ?_;refine Bg U U (λq=>?_) (λq=>?_)
  ·refine V ?_;refine Rt U U ?_;rw [a05 (.inl xE)];rfl
  refine V ?_;refine Ci U (λq2=>?_) (λq2=>?_)
  ·refine V ?_;refine Rt U U ?_;rw [a05 (.inr xE)];rfl
  have hp7:=a8e (xF l 0) xE;refine V ?_;refine Lp (γ:=Nat) (λi=>i<=xF l 0) (λi=>9-i) (λi=>[(1,.d (.bs l)),(5,.d (.i (l.length:Int))),(7,.d (.i ((2 ^ i:Nat):Int))),(8,.d (.i (i:Int)))]) (λ_=>[]) 0 xE y9 trivial ?_;intro i hi;have V7:=a8e i xE;refine V ?_;refine Ci U (λq3=>?_) (λq3=>?_)
  ·refine V ?_;refine⟨i+1,by omega,by omega,?_,trivial⟩;rw [show((2 ^ (i+1):Nat):Int)=((2 ^ i:Nat):Int)*2 by rw [yh];omega];exact y9
  obtain rfl:i=xF l 0:=by omega
  refine V ?_;refine Ci U (λq4=>?_) (λq4=>?_)
  ·refine V ?_;refine Rt U U ?_;rw [a7j xE xE];rfl
  have e2:((l.length:Int)-1).toNat=l.length-1:=by omega
  have b2:(l.getD (l.length-1) 0).toNat<256:=bn l (l.length-1);refine V ?_;rw [e2];refine V ?_;refine Rt U U ?_;rw [a7i xE xE xE];rfl
 refine V ?_;refine Ci U (λt5=>?_) (λt5=>?_)
 ·rw [u6 t5];exact Y
 refine V ?_;refine Ci U (λt6=>?_) (λt6=>?_)
 ·have c:=oq l xE;rw [VI t6];refine V ?_;refine Rt U U ?_;cases (AK l).isSome<;>rfl
 refine V ?_;refine Ci U (λq=>?_) (λq=>?_)
 ·rw [sh q];exact Y
 refine V ?_;refine Ci U (λq=>?_) (λq=>?_)
 ·rw [sf q];exact Y
 refine V ?_;refine Ci U (λq=>?_) (λq=>?_)
 ·rw [se q];exact Y
 refine V ?_;refine Ci U (λq=>?_) (λq=>?_)
 ·rw [sd q];refine V ?_;refine Rt U U ?_;cases DT l<;>rfl
 refine V ?_;refine Ci U (λq=>?_) (λq=>?_)
 ·rw [sb q];refine V ?_;refine Rt U U ?_;cases BS l<;>rfl
 refine V ?_;refine Rt U U ?_;rw [VK xE];rfl
instance:Cn prog 258 (type_of% @Ox):=⟨@Ox⟩
section
attribute [local irreducible] Nat.sub
def okX (x:Nd):Bool:=B6 x.cls x.tag x.cons&&(!x.cons||decide (x.bytes.length=0))&&(x.cons||decide (x.kids.length=0))
theorem a8n {x:Nd}(h:okX x=false):x.put=none:=by
 cases x with
 |mk c t k bs ks =>
 refine a1w ?_;rintro⟨h1,h2,h3⟩;unfold okX at h;cases k<;>simp_all [Nd.cls,Nd.tag,Nd.cons,Nd.bytes,Nd.kids]
theorem a8m {x:Nd}(h:okX x=true):B6 x.cls x.tag x.cons=true/\(x.cons=true->x.bytes.length=0/\x.put=(Nd.B0 (decide (x.cls=0)&&decide (x.tag=17)) x.kids none []).map (λb=>BM x.cls x.tag true b.length++b))/\(x.cons=false->x.put=if decide (x.cls=0)&&!AJ x.tag x.bytes then none else some (BM x.cls x.tag false x.bytes.length++x.bytes)):=by
 cases x with
 |mk c t k bs ks =>
 unfold okX at h;simp only [Nd.cls,Nd.tag,Nd.cons,Nd.bytes,Nd.kids,xB,yu,yN,a_] at h;obtain⟨⟨h1,h2⟩,h3⟩:=h;refine⟨h1,λhk=>?_,λhk=>?_⟩<;>(obtain rfl:k=_:=hk)
 ·have ME:=xV (h2.resolve_left yD);exact⟨ME,uS h1 ME⟩
 ·exact uR h1 (xV (h3.resolve_left yD))
theorem X3:∀ (n:Nat) (x:Nd),x.rk<=n->x.sz<=100000000->yq prog 164 [.nd x] (.zZ [.bs (x.put.getD []),.b x.put.isSome]):=by
 intro n
 induction n with
 |zero=>intro x hx;cases x;simp [Nd.rk] at hx
 |succ n ih =>
 intro x hx CP;have no:x.put=none->yR [.bs [],.b false]=.zZ [.bs (x.put.getD []),.b x.put.isSome]:=λh=>by rw [h];rfl
 have yes:∀ k IK,x.put=some (BM x.cls x.tag k IK.length++IK)->yR [.bs ([UInt8.ofNat (Ee x.cls x.tag k)]++EL IK.length++IK),.b true]=.zZ [.bs (x.put.getD []),.b x.put.isSome]:=λk IK h=>by rw [h];rfl
 have hkl:=bD x.kids;have hx':Nd.CO x.kids+1<=n+1/\1+x.bytes.length+Nd.yP x.kids<=100000000:=by
  cases x;exact⟨hx,CP⟩
 have rm:Rm:=⟨⟩;have cm:=OB x.cls x.tag x.cons;have l8:∀ n,(EL n).length<=8:=λn=>by
  have:=i_ 0 0 false n;unfold BM at this;simp only [aw] at this;omega
 refine an func164 U ntmps164 U (λe=>?_);refine S1 ?_;refine Sb ?_;refine Jb 39 [1] (!okX x) U ?_ ?_
 ·unfold okX;exact Yj
 refine Vi (λg=>?_) (λg=>?_)
 ·exact Vr (no (a8n (by simpa using g)))
 obtain⟨hm,hkt,hkf⟩:=a8m (show okX x=true by simpa using g);have hrg:=R0 hm;refine Vi (λhk=>?_) (λhk=>?_)
 ·obtain⟨GF,hpc⟩:=hkt hk;refine V ?_;refine Rn kB 5 5 U U ?_;refine Lk (γ:=Nat×yG×yG) [1,4] (λ(i,IK,lb)=>i<=x.kids.length/\lb.length<=1000000000/\IK.length<=8*Nd.yP (x.kids.take i)/\Nd.B0 (decide (x.cls=0)&&decide (x.tag=17)) x.kids none []=Nd.B0 (decide (x.cls=0)&&decide (x.tag=17)) (x.kids.drop i) (if i=0 then none else some lb) IK) (λ(i,_)=>x.kids.length-i) (λ(i,_,lb)=>[(5,.row 1),(6,.d (.bs lb)),(7,.d (.i (i:Int)))]) (λ(_,IK,_)=>[(1,.row 5 (.bs IK)),(0,.B1 33 (.nd x))]) (0,[],[]) ⟨by omega,by simp,by simp,U⟩ U ?_;rintro⟨i,IK,lb⟩ ⟨hi,Mi,hil,hp⟩;have DW:=Nd.Gv x.kids i;refine Vi (λq=>?_) (λq=>?_)
  ·have Bx:i<x.kids.length:=by omega
   have e0:x.kids.getD i (.mk 0 0 false [] [])=x.kids[i]:=by simp [Bx]
   have h1:=Nd.La (ax Bx);have h2:=bX (ax Bx);have ck:=ih (x.kids.getD i (.mk 0 0 false [] [])) (by rw [e0];omega) (by rw [e0];omega);have Rl:=Nd.Lb (decide (x.cls=0)&&decide (x.tag=17)) x.kids i (if i=0 then none else some lb) IK Bx;have hzt:=Nd.MQ x.kids i Bx;have Nx:=λkb=>dA _ x.kids[i] kb (aB _);rw [<- e0] at Rl Nx hzt h2;obtain⟨kp,hkp⟩:∃ kp,kp=(x.kids.getD i (.mk 0 0 false [] [])).put:=⟨_,U⟩;rw [<- hkp] at ck Rl Nx;have hkb:(kp.getD []).length<=1000000000:=by
    cases kp with
    |none=>simp
    |some kb=>have:=(Nx kb U).2;simp only [zw];omega
   refine Sb ?_;refine Jw [1,4,5,6,7] [(8,.d (.bs (kp.getD []))),(9,.d (.b kp.isSome))] U ?_;refine Sb ?_;refine Jb 88 [1,4,5,6,7,8] (!kp.isSome||((decide (x.cls=0)&&decide (x.tag=17))&&(decide ((0:Int)<i)&&C7 (kp.getD []) lb))) U Yj ?_;refine Vi (λb=>?_) (λb=>?_)
   ·refine Vr (no ?_);rw [hpc,hp,Rl];cases hkp:kp with
    |none=>rfl
    |some kb =>
     show Option.map _ (if _ then _ else _)=_;rw [xD];rfl;rw [lX,<- jL];rw [hkp] at b;simpa using b
   ·obtain⟨kb,rfl⟩:∃ kb,kp=some kb:=by
     cases kp with
     |none=>simp at b
     |some kb=>exact⟨kb,U⟩
    have b0Q:(Option.getD (some kb) []).length<=_:=(Nx kb U).2;have b2_:kb.length<=_:=(Nx kb U).2;refine V ?_;exact⟨(i+1,IK++kb,kb),by dsimp only;omega,⟨by omega,by omega,by rw [aF,hzt];omega,by
     rw [hp,Rl];show(if _ then _ else _)=_;rw [xC,xC xE];rw [lX,<- jL];intro hh;simp only [xB,a_] at hh;obtain⟨⟨h1,h2⟩,h3,h4⟩:=hh;rcases(by simpa using b:(¬x.cls=0\/¬x.tag=17)\/i=0\/C7 kb lb=false) with (h|h)|h|h
     ·exact h h1
     ·exact h h2
     ·omega
     ·rw [h] at h4;cases h4⟩,Fg,Gt⟩
  ·refine Pb 1 U ?_;have l9:=l8 IK.length;have e1:(64*x.cls+x.tag+32).toNat=Ee x.cls x.tag true:=by unfold Ee;rw [xD rfl];omega
   refine Vr ?_;rw [e1];exact yes true IK (by rw [hpc,hp,yw xE];rfl)
 ·have hpp:=hkf (by simpa using hk);have l9:=l8 x.bytes.length;have e1:(64*x.cls+x.tag).toNat=Ee x.cls x.tag false:=by unfold Ee;rw [xC yD];omega
  refine Sb ?_;refine Jb 103 [1,4,5] (decide (x.cls=0)&&!AJ x.tag x.bytes) U Yj ?_;refine Vi (λb=>?_) (λb=>?_)
  ·exact Vr (no (by rw [hpp,xD (by simpa using b)]))
  ·refine Vr ?_;rw [e1];exact yes false x.bytes (by
    rw [hpp,xC];intro hh;simp only [xB,a_,yN] at hh;rcases(by simpa using b:¬x.cls=0\/AJ x.tag x.bytes=true) with h|h
    ·exact h hh.1
    ·rw [h] at hh;cases hh.2)
theorem mm (x:Nd) (hz:x.sz<=100000000):yq prog 164 [.nd x] (.zZ [.bs (x.put.getD []),.b x.put.isSome]):=X3 _ x (aB _) hz
instance:Cn prog 164 (type_of% @mm):=⟨@mm⟩
theorem uv (x:Nd) (hz:x.sz<=100000000):yq prog 78 [.nd x] (.b x.put.isSome):=by
 exact an func78 U ntmps78 U (λe=>Y)
instance:Cn prog 78 (type_of% @uv):=⟨@uv⟩
end
abbrev cP:=@Int.natCast_add
theorem LF {p:Prop}(u:p:=by first|exact xG.QB rfl rfl xE xE xE|exact xG.quo rfl rfl xE):p:=u
theorem a0q {p:Prop}(u:p:=by repeat (first|exact trivial|refine⟨rfl,?_⟩|refine⟨(by exact gQ (by first|(rw [y7];omega)|exact(ah xE).symm|exact ah xE)),?_⟩)):p:=u
theorem gh:AF prog 278=some none:=by kernel_rfl
theorem PE:yH prog 154=true:=by kernel_rfl
theorem PC:yH prog 200=true:=by kernel_rfl
theorem w7:yH prog 214=true:=by kernel_rfl
theorem vZ:yH prog 245=true:=by kernel_rfl
theorem a73:yH prog 246=true:=by kernel_rfl
theorem ZU:yH prog 289=true:=by kernel_rfl
theorem a6S:yH prog 334=true:=by kernel_rfl
theorem kO:Bz prog 278 213=some .u64:=by kernel_rfl
theorem pP:Bz prog 278 5=some .u8:=by kernel_rfl
theorem a3O:mkT prog 22=some (5,.int .u8 0,1):=by kernel_rfl
theorem jT:Ig prog 49=some (278,1):=by kernel_rfl
def d32 (l:List UInt32) (i:Nat):Nat:=(l.getD i 0).toNat
def d64 (l:List UInt64) (i:Nat):Nat:=(l.getD i 0).toNat
theorem mS (l:List UInt32) (i:Nat) (h:i<l.length):((l[i]'h).toNat:Int)=d32 l i:=by simp [d32,h]
theorem rF (l:List UInt64) (i:Nat) (h:i<l.length):((l[i]'h).toNat:Int)=d64 l i:=by simp [d64,h]
theorem lm (l:List UInt32) (i:Nat):d32 l i<4294967296:=Eu _
theorem S8 (l:List UInt32) (i:Nat) (h:l.length<=i):d32 l i=0:=by
 unfold d32;rw [aJ,bu h];rfl
theorem pO (l:List UInt64) (i:Nat) (h:l.length<=i):d64 l i=0:=by
 unfold d64;rw [aJ,bu h];rfl
def Ey (f:Nat->Nat):Nat->Nat
 |0=>0
 |n+1=>if f n=0 then Ey f n else n+1
theorem gN (f:Nat->Nat):∀ n,Ey f n<=n
 |0=>aB _
 |n+1=>by unfold Ey;split;(have:=gN f n;omega);exact aB _
theorem PT (f:Nat->Nat):∀ n,Ey f n≠0->f (Ey f n-1)≠0
 |0,h=>absurd U h
 |n+1,h=>by
  unfold Ey at h |-
  by_cases hf:f n=0
  ·rw [xD hf] at h |-;exact PT f n h
  ·rw [xC hf];exact hf
theorem lz (f:Nat->Nat):∀ n i,Ey f n<=i->i<n->f i=0
 |0,i,_,h=>by omega
 |n+1,i,h,h2=>by
  unfold Ey at h;by_cases hf:f n=0
  ·rw [xD hf] at h;by_cases hi:i=n
   ·subst hi;exact hf
   ·exact lz f n i h xE
  ·rw [xC hf] at h;omega
theorem u9 (f:Nat->Nat) (n:Nat) (h:¬ (0<n/\f (n-1)=0)):Ey f n=n:=by
 cases n with
 |zero=>rfl
 |succ n=>unfold Ey;exact xC (λhf=>h ⟨by omega,hf⟩)
theorem VT (f:Nat->Nat) (n:Nat) (h:0<n/\f (n-1)=0):Ey f n=Ey f (n-1):=by
 obtain⟨m,rfl⟩:∃ m,n=m+1:=⟨n-1,by omega⟩;conv=>lhs;unfold Ey
 exact xD h.2
def bl (n:Nat):Nat:=if n=0 then 0 else n.log2+1
theorem SA (n:Nat) (h:0<n):bl n=bl (n / 2)+1:=by
 unfold bl;rw [xC xE,Nat.log2_def];split
 ·rw [xC xE]
 ·rw [xD xE]
theorem wg (k n:Nat):2 ^ k<=n->bl n=k+bl (n / 2 ^ k):=by
 induction k generalizing n with
 |zero=>intro _;simp
 |succ k ih =>
  intro h;rw [yh] at h;have hp:0<2 ^ k:=Nat.two_pow_pos k;rw [SA n xE,ih (n / 2) xE,zm,yh,zP 2];omega
theorem n9 (k n:Nat) (h:n<2 ^ k):bl n<=k:=by
 unfold bl;split
 ·omega
 ·have:=(Nat.log2_lt zL).2 h;omega
theorem tQ (l:List UInt32) (i:Nat):bl (d32 l i)<=32:=n9 32 _ (lm l i)
def a0I:LB:=[0,1]++List.replicate 2 2++List.replicate 4 3++List.replicate 8 4++List.replicate 16 5++List.replicate 32 6++List.replicate 64 7++List.replicate 128 8
theorem VW:a0I.length=256:=by decide +kernel
theorem a0H (n:Nat) (h:n<256):xF a0I n=bl n:=by
 have:∀ i:Fin 256,xF a0I i.val=bl i.val:=by decide +kernel
 exact this ⟨n,h⟩
variable{a:OA}{h:Part}{l:List UInt32}
theorem iy {c:Nat}(hl:A3 Bf 1 h a c l):Pure prog 245 [.slice a l.length c] h (.int .i64 (Ey (d32 l) l.length:Nat)):=by
 have GU:=hl.GX;refine aQ func245 U ntmps245 U (λe he=>?_);refine ba [(0,_)] y9 ?_;refine Sr (Ru 1 U (aj (Sr (Ru 3 U (aj (aK (aV (bU (λt_ S_ h_ L_=>∃ (n:Nat),t_=n+1/\S_=[(0,.slice a l.length c),(3,.int .i64 n)]/\h=h_/\L_=[]/\(n<=l.length/\Ey (d32 l) l.length=Ey (d32 l) n)) ⟨_,_,?_,⟨l.length,U,U,U,U,⟨aB _,U⟩⟩⟩ ?_))))))))
 ·exact IE
 rintro _ _ _ _ ⟨n,rfl,rfl,rfl,rfl,hn,he⟩;refine aK (aK (J.meet [(15,.bool (decide (0<n/\d32 l (n-1)=0)))] [(0,_),(3,_)] y9 ?_ ?_))
 ·refine Rg (Ru 3 U (Bs 8 U (λBy=>?_) λBy=>?_))
  ·refine Ru 2 U (bz U U  GP U ?_);refine JL.FM U U  (aX jT U U n7 zL U xE) U ?_;rintro _ ⟨b2,o2,J8,rfl,hE2⟩;refine bz U U  (dt gh U zL) U ?_;rw [mS,show((n:Int)-1).toNat=n-1 by omega];refine Ru 2 U (aj (⟨U,U,?_⟩));exact a0q
  refine Ru 7 U (aj (⟨U,U,?_⟩));exact a0q
 refine Cs U (λJ'=>?_) λJ'=>?_
 ·exact m96
 exact bJ (Sr (Ru 2 U (Nk [2] U (cn (aW U U) (by rw [he,u9 _ _ xE]) U))))
def J7 (D n:Nat):Nat:=if D<=n then n / D else n
def YF (D k n:Nat):Nat:=if D<=n then k else 0
theorem a3W (k n:Nat):bl n=YF (2 ^ k) k n+bl (J7 (2 ^ k) n):=by
 unfold YF J7;split
 ·exact wg k n zL
 ·simp
theorem YB {D n:Nat}(k:Nat) (h:D<=n):J7 D n=n / D/\YF D k n=k:=⟨xD h,xD h⟩
theorem YC {D n:Nat}(k:Nat) (h:¬ D<=n):J7 D n=n/\YF D k n=0:=⟨xC h,xC h⟩
theorem YE (D k n:Nat):YF D k n<=k:=by unfold YF;split<;>omega
theorem Ya {n:Nat}(hn:n<4294967296):Pure prog 246 [.int .u32 n] h (.int .i64 (bl n:Nat)):=by
 have htl:=VW;have h1:J7 65536 n<65536:=by unfold J7;split<;>omega
 have h2:J7 256 (J7 65536 n)<256:=(show ∀ m,m<65536->J7 256 m<256 from λm hm=>by unfold J7;split<;>omega) _ h1;have e1:bl n=YF 65536 16 n+bl (J7 65536 n):=a3W 16 n;have e2:bl (J7 65536 n)=YF 256 8 (J7 65536 n)+bl (J7 256 (J7 65536 n)):=a3W 8 _;have l1:=YE 65536 16 n;have l2:=YE 256 8 (J7 65536 n);have l3:=a0H _ h2;have l4:=n9 8 _ h2;refine aQ func246 U ntmps246 U (λe he=>?_);refine ba [(0,_)] y9 ?_;refine Sr (Ru 1 U (aj (aK (Sr (Ru 2 U (aj (J.meet [(0,.int .u32 (J7 65536 n:Nat)),(2,.int .i64 (YF 65536 16 n:Nat))] [] trivial ?_ ?_)))))))
 ·refine Cs U (λBy=>?_) λBy=>?_
  ·have q:=YB (D:=65536) (n:=n) 16 xE;refine Sr (Ru 1 U (aA (xG.LM 65536 U U yD yD yD) U ?_));refine Ru 1 U (Nk [0,2] U (Rg (Ru 1 U (aj (⟨U,U,?_⟩)))));exact IE
  have q:=YC (D:=65536) (n:=n) 16 xE;refine aO (⟨U,U,?_⟩);exact IE
 refine aK (Sr (Ru 2 U (aj (J.meet [(0,.int .u32 (J7 256 (J7 65536 n):Nat)),(2,.int .i64 (YF 65536 16 n+YF 256 8 (J7 65536 n):Nat))] [] trivial ?_ ?_))))
 ·refine Cs U (λBO=>?_) λBO=>?_
  ·have q:=YB (D:=256) (n:=J7 65536 n) 8 xE;refine Sr (Ru 1 U (aA (xG.LM 256 U U yD yD yD) U ?_));refine Ru 1 U (Nk [0,2] U (Rg (Ru 1 U (aA Fc U ?_))));refine Ru 1 U (aj (⟨U,U,?_⟩));exact IE
  have q:=YC (D:=256) (n:=J7 65536 n) 8 xE;refine aO (⟨U,U,?_⟩);exact IE
 refine Sr (Ru 2 U (aA (by first|exact xG.Sf pP rfl xE xE|exact cB pP rfl) U ?_));refine aA (xG.JB (p:=a0I) (m:=J7 256 (J7 65536 n)) xz cq U U xE) U ?_;rw [l3];refine aA Vu U ?_;refine aA Fc U ?_;exact Ru 1 U (Nk [2] U (cn (aW U U) (by rw [e1,e2,cP,cP,cP,G3]) U))
def D6 (f:Nat->Nat) (n:Nat):Nat:=if Ey f n=0 then 0 else 32*(Ey f n-1)+bl (f (Ey f n-1))
theorem iz {c:Nat}(hl:A3 Bf 1 h a c l):Pure prog 154 [.slice a l.length c] h (.int .i64 (D6 (d32 l) l.length:Nat)):=by
 have GU:=hl.GX;have ht:=gN (d32 l) l.length;have hb:=tQ l (Ey (d32 l) l.length-1);refine aQ func154 U ntmps154 U (λe he=>?_);refine ba [(0,_)] y9 ?_;refine Sr (Ru 1 U (aj (Sr (Ru 1 U (cj vZ U (iy zL) U ?_)))));refine Ru 1 U (aj (aK (Sr (Ru 2 U (aj (Cs U (λBO=>?_) λBO=>?_))))))
 ·have hz:D6 (d32 l) l.length=0:=xD xE;exact Sr (Ru 1 U (Nk [2,3,0] U (cn (aW U U) (by rw [hz];rfl) U)))
 have hz:D6 (d32 l) l.length=32*(Ey (d32 l) l.length-1)+bl (d32 l (Ey (d32 l) l.length-1)):=xC xE;refine aO (Kp [3,2,0] U (Sr (Ru 1 U (aA GP U ?_))));refine aA Oc U ?_;refine Ru 2 U (aA GP U ?_);refine cX (aX jT U U n7 zL U xE) U ?_;rintro _ ⟨b3,o3,hi3,rfl,hE3⟩;refine aA (dt gh U zL) U ?_;rw [mS,show((Ey (d32 l) l.length:Int)-1).toNat=Ey (d32 l) l.length-1 by omega];refine cj a73 U (Ya (lm _ _)) U ?_;refine aA Fc U ?_;exact Ru 1 U (Nk [2] U (cn (aW U U) (by rw [hz];exact congrArg (Value.int .i64) xE) U))
def wB (f:Nat->Nat) (i:Nat):UInt8:=UInt8.ofNat (f (i / 4) / 256 ^ (i % 4))
def E7 (f:Nat->Nat):Nat->LB
 |0=>[]
 |k+1=>wB f k::E7 f k
theorem jn (f:Nat->Nat):∀ k,(E7 f k).length=k
 |0=>rfl
 |k+1=>by simp [E7,jn f k]
theorem a7V (i:Nat):(2:Int) ^ (8*((i:Int) % 4)).toNat=256 ^ (i % 4):=by
 have:(8*((i:Int) % 4)).toNat=8*(i % 4):=by omega
 rw [this,Int.pow_mul];rfl
theorem Qa (m:Nat) (t:LB) (x:UInt8):(List.replicate (m+1) 0++t).set m x=List.replicate m 0++x::t:=by
 rw [Ly,xW,List.set_append_right _ _ (by simp)];simp
theorem a1l (m:Nat) (t:LB):(List.replicate (m+1) 0++t:LB)=List.replicate m 0++0::t:=by
 rw [Ly,xW];rfl
theorem td {c k:Nat}(hl:A3 Bf 1 h a c l) (hk:k<=65536) (hb:(D6 (d32 l) l.length+7) / 8<=k) :
 F1 prog 291 [.slice a l.length c,.int .i64 k] h (λv h'=>∃ a' c',v=.tuple #[.slice a' (E7 (d32 l) k).length c',.int .i64 0]/\A3 DJ 1 h' a' c' (E7 (d32 l) k)):=by
 have GU:=hl.GX;refine aQ func291 U ntmps291 U (λe he=>?_);refine ba [(0,_),(1,_)] y9 ?_;have AD:=aP h;refine Sr (Ru 2 U (aj (aK (Sr (Ru 3 U ?_)))));apply On 10 13 3 [5,4,0,1] U U
 rotate_left
 ·intro H3 By;exact Ru 3 U (Ae (a1P H3 U) U)
 rotate_right
 ·exact λH3 _=>Ru 3 U (Ae (a1O H3 U) U)
 refine aj (Cs U (λBO=>?_) λBO=>?_)
 ·exfalso;omega
 refine aO (aK (Sr (Ru 1 U (cj PE U (iz zL) U ?_))));refine aA Fc U ?_;refine aA LF U ?_;refine Ru 2 U (Nk [19,5,4,0,1] U (Cs U (λJ'=>?_) λJ'=>?_))
 ·exfalso;omega
 refine aO (Sr (Ru 1 U ?_));refine JL.Y1 a3O U U (m:=k) U U xE U U (λb1=>?_);rw [lg];refine Ru 1 U (aj (aK (Sr (Ru 2 U (aj (aV (bU (λt_ S_ h_ L_=>∃ (i:Nat) (out:LB),t_=k-i/\S_=[(0,.slice a l.length c),(1,.int .i64 k),(6,.slice (some ⟨b1,0,none⟩) k k),(22,.int .i64 k),(23,.int .i64 i)]/\h=h_/\L_=[.row (some ⟨b1,0,none⟩) k 5 1 k (GO out)]/\(i<=k/\out=List.replicate (k-i) 0++E7 (d32 l) i)) ⟨_,_,?_,⟨0,_,U,U,U,U,⟨by omega,by simp [E7]⟩⟩⟩ ?_)))))))
 ·exact Du
 rintro _ _ _ _ ⟨i,out,rfl,rfl,rfl,rfl,hi,ho⟩;refine Sr (Ru 1 U (aj (aK (Cs U (λLj=>?_) λLj=>?_))))
 ·have hol:out.length=k:=(by rw [ho,aF,Fz,jn];omega);have P_:=lm l (i / 4);refine aO (aK (aV (Sr (Ru 2 U (aj (Sr (Ru 1 U (aA LF U ?_))))))));refine Ru 3 U (aj (Cs U (λP'=>?_) λP'=>?_))
  ·obtain⟨m,hm⟩:∃ m,k-i=m+1:=⟨k-i-1,by omega⟩;have Im:out.set (k-1-i) (wB (d32 l) i)=List.replicate (k-(i+1)) 0++E7 (d32 l) (i+1):=(by rw [ho,hm,show k-1-i=m by omega,Qa,show k-(i+1)=m by omega];rfl);refine Rg (Ru 2 U (aA GP U ?_));refine Ru 1 U (aA GP U ?_);refine Ru 2 U (aA LF U ?_);refine cX (aX jT U U n7 zL U xE) U ?_;rintro _ ⟨b8,o8,hi8,rfl,hE8⟩;refine aA (dt gh U zL) U ?_;rw [mS,show((i:Int) / 4).toNat=i / 4 by omega];refine Ru 1 U (aA (by first|exact xG.J5 rfl rfl xE xE|exact xG.rem rfl rfl xE) U ?_);refine aA Oc U ?_;refine aA (xG.LM (256 ^ (i % 4)) U U xE xE (a7V i)) U ?_;refine aA (xG.toByte (d32 l (i / 4) / 256 ^ (i % 4)) pP U (by rw [Int.natCast_ediv,Gr];rfl)) U ?_;refine aA (xG.Fw gH (m:=k-1-i) U U xE xE) U ?_;refine JL.HH KZ U U U zW (show k-1-i<(GO out).length by rw [ik];omega) ?_;rw [od];refine aj (Rg (aA Fc U ?_));refine Ru 1 U (aj (⟨_,?_,_,?_,⟨i+1,_,U,U,U,U,⟨by omega,Im⟩⟩⟩))
   ·omega
   exact Du
  obtain⟨m,hm⟩:∃ m,k-i=m+1:=⟨k-i-1,by omega⟩;have Im:out=List.replicate (k-(i+1)) 0++E7 (d32 l) (i+1):=(by rw [ho,hm,a1l,show k-(i+1)=m by omega,E7,wB,S8 l (i / 4) xE,Nat.zero_div];rfl);refine aO (Rg (aA Fc U ?_));refine Ru 1 U (aj (⟨_,?_,_,?_,⟨i+1,_,U,U,U,U,⟨by omega,Im⟩⟩⟩))
  ·omega
  exact Du
 refine bJ (Kp [6] U (Sr ?_));exact m59
def Hy (l:List UInt64):List UInt64:=l.take (Ey (d64 l) l.length)
def m64 (x:UInt32):UInt64:=UInt64.ofNat x.toNat
theorem pm (x:UInt32):(m64 x).toNat=x.toNat:=by
 have:=Eu x;unfold m64;rw [UInt64.toNat_ofNat'];omega
theorem mR (l:List UInt32) (i:Nat):d64 (l.map m64) i=d32 l i:=by
 unfold d64 d32;by_cases h:i<l.length
 ·simp [h,pm]
 ·simp [h]
theorem qh {f g:Nat->Nat}(h:∀ i,f i=g i) (n:Nat):Ey f n=Ey g n:=by rw [show f=g from funext h]
theorem vP (l:List UInt64) (k i:Nat) (h:∀ i,k<=i->i<l.length->d64 l i=0):d64 (l.take k) i=d64 l i:=by
 by_cases hi:i<k
 ·unfold d64;simp [yz,hi]
 ·by_cases hl:i<l.length
  ·rw [h i xE hl,pO _ _ (by rw [aS];omega)]
  ·rw [pO l _ xE,pO _ _ (by rw [aS];omega)]
def Hg (l:List UInt32):List UInt64:=Hy (l.map m64)
theorem Uk (l:List UInt32):(Hg l).length=Ey (d32 l) l.length:=by
 unfold Hg Hy;have:=gN (d64 (l.map m64)) (l.map m64).length;rw [aS,Gp this,qh (mR l),aq]
theorem vI (l:List UInt32) (i:Nat):d64 (Hg l) i=d32 l i:=by
 unfold Hg Hy;rw [vP _ _ _ (λi h1 h2=>lz _ _ i h1 h2),mR]
theorem Zv {c:Nat}{l:List UInt64}(hl:A3 C8 1 h a c l):F1 prog 289 [.slice a l.length c] h (λv h'=>∃ a' c',v=.slice a' (Hy l).length c'/\A3 C8 1 h' a' c' (Hy l)):=by
 have GU:=hl.GX;have AD:=aP h;refine aQ func289 U ntmps289 U (λe he=>?_);refine ba [(0,_)] y9 ?_;refine Sr (Ru 1 U (aj (Sr (Ru 3 U (aj (aK (aV (bU (λt_ S_ h_ L_=>∃ (n:Nat),t_=n+1/\S_=[(0,.slice a l.length c),(3,.int .i64 n)]/\h=h_/\L_=[]/\(n<=l.length/\Ey (d64 l) l.length=Ey (d64 l) n)) ⟨_,_,?_,⟨l.length,U,U,U,U,⟨aB _,U⟩⟩⟩ ?_))))))))
 ·exact IE
 rintro _ _ _ _ ⟨n,rfl,rfl,rfl,rfl,hn,he⟩;refine aK (aK (J.meet [(15,.bool (decide (0<n/\d64 l (n-1)=0)))] [(0,_),(3,_)] y9 ?_ ?_))
 ·refine Rg (Ru 3 U (Bs 8 U (λBy=>?_) λBy=>?_))
  ·refine Ru 2 U (bz U U  GP U ?_);refine JL.FM U U  (aX dk U U n7 zL U xE) U ?_;rintro _ ⟨b2,o2,J8,rfl,hE2⟩;refine bz U U  (bG e_ U zL) U ?_;rw [rF,show((n:Int)-1).toNat=n-1 by omega];refine Ru 2 U (aj (⟨U,U,?_⟩));exact a0q
  refine Ru 7 U (aj (⟨U,U,?_⟩));exact a0q
 refine Cs U (λJ'=>?_) λJ'=>?_
 ·exact m96
 have hcz:l.take n=Hy l:=(by unfold Hy;rw [he,u9 _ _ xE]);refine bJ (Sr (Ru 2 U (cX (AB.NK dk (m:=n) U U U zL U xE) U ?_)));rintro _ ⟨a9,c9,rfl,MC⟩;rw [hcz] at MC |-
 exact Ru 1 U (Nk [2] U (bM (aW U U) ⟨_,_,U,MC⟩))
theorem j_ {c:Nat}(hl:A3 Bf 1 h a c l) (hlen:l.length<=1000000):F1 prog 214 [.slice a l.length c] h (λv h'=>∃ a' c',v=.slice a' (Hg l).length c'/\A3 C8 1 h' a' c' (Hg l)):=by
 have GU:=hl.GX;refine aQ func214 U ntmps214 U (λe he=>?_);refine ba [(0,_)] y9 ?_;refine Sr (Ru 1 U (aj (Sr (Ru 1 U (aj (aK (Sr (dh 213 1 ?_))))))));refine Ru 1 U (aj (aV (bU (λt_ S_ h_ L_=>∃ (g:Part) (i:Nat) (ao:OA) (co:Nat) (xs:LV),t_=l.length-i/\S_=[(0,.slice a l.length c),(3,.slice ao ((l.map m64).take i).length co),(4,.int .i64 i)]/\g=h_/\L_=[.row ao co 213 1 ((l.map m64).take i).length xs]/\(h.le g/\i<=l.length/\yl C8 1 g xs ((l.map m64).take i))) ⟨_,_,?_,⟨_,0,_,_,_,U,U,U,U,⟨aP _,by omega,bQ⟩⟩⟩ ?_)))
 ·exact Du
 rintro _ _ _ _ ⟨g,i,ao,co,xs,rfl,rfl,rfl,rfl,J9,hi,hC⟩;have hl:=hl.mono J9;refine aK (Sr (Ru 4 U (aj (Cs U (λBy=>?_) λBy=>?_))))
 ·have J8:i<l.length:=xE;have Bx:i<(l.map m64).length:=(by rw [aq];omega);have htl:((l.map m64).take i).length=i:=(by rw [aS,aq];omega);have hke:(l.map m64).take i++[m64 (l[i]'J8)]=(l.map m64).take (i+1):=(by rw [ai Bx,Ba]);refine aO (aK (aV (Rg (Ru 3 U (cX (aX jT U U n7 zL U xE) U ?_)))));rintro _ ⟨b2,o2,J8,rfl,hE2⟩;refine aA (dt gh U zL) U ?_;refine aA (by first|exact xG.GH kO rfl xE xE|exact xG.Ut kO rfl|exact cB kO rfl) U ?_;refine du iP n_ U U U U U (λb4=>?_);refine di iP U U zL U zW zW U ((by show _=_;rw [pm]:C8 _ [.int .u64 (l[i].toNat:Int)] (m64 l[i]))) LD U U (λa5 c5 xs5 hC5 hN5=>?_);exact m84
 refine bJ (Kp [3] U (Sr (Ru 1 U ?_)));have hke:(l.map m64).take i=l.map m64:=aD (by rw [aq];omega);have FH:(l.map m64).length=l.length:=aq ..;rw [hke] at hC |-;refine JL.LZ (R:=C8) zW zL U xE (λh9 FT MC=>?_);replace hl:=hl.mono FT;replace hC:=hC.mono FT;replace J9:=J9.mono FT
 refine bS ZU U (Zv zL) U ?_;rintro _ h6 P5 ⟨a6,c6,rfl,hS6⟩
 replace hl:=hl.mono P5
 replace J9:=J9.mono P5
 replace hC:=hC.mono P5
 exact Ru 1 U (aj (bM (aW U U) ⟨_,_,U,by assumption⟩))
theorem Zb {c i:Nat}{l:List UInt64}(hl:A3 C8 1 h a c l):Pure prog 334 [.slice a l.length c,.int .i64 i] h (.int .u64 (d64 l i:Nat)):=by
 have GU:=hl.GX;refine aQ func334 U ntmps334 U (λe he=>?_);refine ba [(0,_),(1,_)] y9 ?_;refine Sr (Ru 1 U (aj (aK (Sr (Ru 4 U (aj (Cs U (λBy=>?_) λBy=>?_)))))))
 ·refine Sr (Ru 2 U (cX (aX dk U U n7 zL U xE) U ?_));rintro _ ⟨b2,o2,J8,rfl,hE2⟩;refine aA (bG e_ U zL) U ?_;rw [rF];exact Ru 1 U (Nk [4] U (cn (aW U U) U U))
 exact aO (Kp [4] U (Sr (Ru 1 U (aj (cn (aW U U) (by rw [pO l i xE];rfl) U)))))
theorem Um {c i:Nat}{q:Int}{l:List UInt64}(hl:A3 C8 1 h a c l) (hq:q=(i:Int)):Pure prog 334 [.slice a l.length c,.int .i64 q] h (.int .u64 (d64 l i:Nat)):=by
 subst hq;exact Zb hl
theorem lB {c:Nat}(hl:A3 Bf 1 h a c l) (hlen:l.length<=1000000):F1 prog 200 [.slice a l.length c] h (λv _=>v=.int .i64 (D6 (d32 l) l.length:Nat)):=by
 have GU:=hl.GX;have ht:=gN (d32 l) l.length;have P_:=Uk l;refine aQ func200 U ntmps200 U (λe he=>?_);refine ba [(0,_)] y9 ?_;have AD:=aP h;refine Sr (Ru 1 U (aj (Sr (Ru 1 U (bS w7 U (j_ zL xE) U ?_)))));rintro _ h1 Gd ⟨a1,c1,rfl,hS1⟩
 replace hl:=hl.mono Gd
 replace AD:=AD.mono Gd
 refine Ru 1 U (aj (aK (Sr (Ru 3 U (Nk [10,3,2] U (Cs U (λBO=>?_) λBO=>?_))))))
 ·have hz:D6 (d32 l) l.length=0:=xD xE;exact Sr (Ru 1 U (aj (bM (aW U U) (by rw [hz];rfl))))
 have hz:D6 (d32 l) l.length=32*(Ey (d32 l) l.length-1)+bl (d32 l (Ey (d32 l) l.length-1)):=xC xE;have hb:=tQ l (Ey (d32 l) l.length-1);refine aO (Sr (Ru 2 U (aA GP U ?_)));refine aA Oc U ?_;refine Ru 1 U (Nk [4,3,2] U (aK (Sr (Ru 3 U (aA GP U ?_)))));refine cX (aX dk U U n7 zL U xE) U ?_;rintro _ ⟨b3,o3,hi3,rfl,hE3⟩;refine aA (bG e_ U zL) U ?_;rw [rF,show(((Hg l).length:Int)-1).toNat=Ey (d32 l) l.length-1 by omega,vI];refine Ru 1 U (Nk [5,4,2] U (aV (bU (λt_ S_ h_ L_=>∃ (m:Nat),t_=m+1/\S_=[(4,.int .i64 ((32*(Ey (d32 l) l.length-1)+bl (d32 l (Ey (d32 l) l.length-1)):Nat)-(bl m:Nat):Int)),(5,.int .u64 m)]/\h1=h_/\L_=[]/\(m<4294967296)) ⟨_,_,?_,⟨d32 l (Ey (d32 l) l.length-1),U,U,U,U,lm _ _⟩⟩ ?_)))
 ·exact IE
 rintro _ _ _ _ ⟨m,rfl,rfl,rfl,rfl,hm⟩;have hbm:=n9 32 m hm;refine aK (Sr (Ru 2 U (aj (Cs U (λPa=>?_) λPa=>?_))))
 ·have hbh:=SA m xE;refine aO (aK (aV (Rg (Ru 1 U (aA Fc U ?_)))));refine Ru 1 U (aj (Rg (Ru 1 U (aA (by first|exact xG.ET rfl rfl xE xE xE|exact xG.quo rfl rfl xE) U ?_))));refine Ru 1 U (aj (⟨_,?_,_,?_,⟨m / 2,U,U,U,U,by omega⟩⟩))
  ·omega
  exact IE
 have hm0:m=0:=xE;subst hm0;exact bJ (Sr (Ru 2 U (Nk [2] U (bM (aW U U) (by rw [hz];exact congrArg (Value.int .i64) (by show _-((0:Nat):Int)=_;omega))))))
theorem wW (n:Nat):UInt8.ofNat (n % 256)=UInt8.ofNat n:=by
 apply zh.1;simp
theorem Tl {c k:Nat}(hl:A3 Bf 1 h a c l) (hlen:l.length<=1000000) (hk:k<=65536) (hb:D6 (d32 l) l.length<=8*k) :
 F1 prog 288 [.slice a l.length c,.int .i64 k] h (λv h'=>∃ a' c',v=.tuple #[.slice a' (E7 (d32 l) k).length c',.int .i64 0]/\A3 DJ 1 h' a' c' (E7 (d32 l) k)):=by
 have GU:=hl.GX;refine aQ func288 U ntmps288 U (λe he=>?_);refine ba [(0,_),(1,_)] y9 ?_;have AD:=aP h;refine Sr (Ru 2 U (aj (aK (Sr (Ru 3 U ?_)))));apply On 13 16 3 [5,4,0,1] U U
 rotate_left
 ·intro H3 By;exact Ru 3 U (Ae (a1P H3 U) U)
 rotate_right
 ·exact λH3 _=>Ru 3 U (Ae (a1O H3 U) U)
 refine aj (Cs U (λBO=>?_) λBO=>?_)
 ·exfalso;omega
 refine aO (Sr (Ru 1 U (bS w7 U (j_ zL xE) U ?_)));rintro _ h3 FU ⟨da,dc,rfl,hD⟩
 replace hl:=hl.mono FU
 replace AD:=AD.mono FU
 refine Ru 1 U (aj (aK (Sr (Ru 1 U (bS PC U (lB zL xE) U ?_)))));rintro _ h4 Nt rfl
 replace hl:=hl.mono Nt
 replace AD:=AD.mono Nt
 replace hD:=hD.mono Nt
 refine Ru 1 U (aA Oc U ?_);refine Ru 1 U (Nk [23,6,5,4,1] U (Cs U (λPa=>?_) λPa=>?_))
 ·exfalso;omega
 refine aO (Sr (Ru 1 U ?_));refine JL.Y1 a3O U U (m:=k) U U xE U U (λb1=>?_);rw [lg];refine Ru 1 U (aj (aK (Sr (Ru 1 U (aj (aV (bU (λt_ S_ h_ L_=>∃ (i:Nat) (out:LB),t_=k-i/\S_=[(1,.int .i64 k),(6,.slice da (Hg l).length dc),(7,.slice (some ⟨b1,0,none⟩) k k),(8,.int .i64 i)]/\h4=h_/\L_=[.row (some ⟨b1,0,none⟩) k 5 1 k (GO out)]/\(i<=k/\out=List.replicate (k-i) 0++E7 (d32 l) i)) ⟨_,_,?_,⟨0,_,U,U,U,U,⟨by omega,by simp [E7]⟩⟩⟩ ?_)))))))
 ·exact Du
 rintro _ _ _ _ ⟨i,out,rfl,rfl,rfl,rfl,hi,ho⟩;refine aK (Sr (Ru 3 U (aj (Cs U (λP'=>?_) λP'=>?_))))
 ·have hol:out.length=k:=(by rw [ho,aF,Fz,jn];omega);have P_:=lm l (i / 4);obtain⟨m,hm⟩:∃ m,k-i=m+1:=⟨k-i-1,by omega⟩;have Im:out.set (k-1-i) (wB (d32 l) i)=List.replicate (k-(i+1)) 0++E7 (d32 l) (i+1):=(by rw [ho,hm,show k-1-i=m by omega,Qa,show k-(i+1)=m by omega];rfl);refine aO (aK (aV (Sr (Ru 2 U (aA LF U ?_)))));refine cj a6S U (Um (i:=i / 4) hD xE) U ?_;rw [vI];refine Ru 1 U (aj (aK (Sr (Ru 1 U (aj (aV (bU (λt_ S_ h_ L_=>∃ (j y:Nat),t_=i % 4-j/\S_=[(1,.int .i64 k),(6,.slice da (Hg l).length dc),(7,.slice (some ⟨b1,0,none⟩) k k),(8,.int .i64 i),(9,.int .u64 (y:Nat)),(10,.int .i64 j)]/\h4=h_/\L_=[.row (some ⟨b1,0,none⟩) k 5 1 k (GO out)]/\(j<=i % 4/\y=d32 l (i / 4) / 256 ^ j/\y<4294967296)) ⟨_,_,?_,⟨0,d32 l (i / 4),U,U,U,U,⟨by omega,by simp,P_⟩⟩⟩ ?_)))))))
  ·exact Du
  rintro _ _ _ _ ⟨j,y,rfl,rfl,rfl,rfl,hj,hy,hy2⟩;refine aK (Sr (Ru 2 U (aA (by first|exact xG.J5 rfl rfl xE xE|exact xG.rem rfl rfl xE) U ?_)));refine Ru 1 U (aj (Cs U (λU6=>?_) λU6=>?_))
  ·refine aO (aK (aV (Rg (Ru 1 U (aA (by first|exact xG.ET rfl rfl xE xE xE|exact xG.quo rfl rfl xE) U ?_)))));refine Ru 1 U (aj (Rg (Ru 1 U (aA Fc U ?_))));refine Ru 1 U (aj (⟨_,?_,_,?_,⟨j+1,y / 256,U,U,U,U,⟨by omega,by rw [hy,yh,<- zm],by omega⟩⟩⟩))
   ·omega
   exact Du
  have hj4:j=i % 4:=xE;subst hj4;refine bJ (Rg (Ru 2 U (aA GP U ?_)));refine Ru 1 U (aA GP U ?_);refine Ru 1 U (aA (by first|exact xG.HO rfl rfl xE xE|exact xG.rem rfl rfl xE) U ?_);refine aA (xG.toByte (y % 256) jE U xE) U ?_;rw [wW,hy];refine aA (xG.Fw gH (m:=k-1-i) U U xE xE) U ?_;refine JL.HH KZ U U U zW (show k-1-i<(GO out).length by rw [ik];omega) ?_;rw [od];refine aj (Rg (Ru 1 U (aA Fc U ?_)));refine Ru 1 U (aj (⟨_,?_,_,?_,⟨i+1,_,U,U,U,U,⟨by omega,Im⟩⟩⟩))
  ·omega
  exact Du
 refine bJ (Kp [7] U (Sr ?_));exact m59
theorem SF:Mq prog 49=some (278,1,4):=by kernel_rfl
theorem a9x:yH prog 26=true:=by kernel_rfl
theorem a6X:yH prog 288=true:=by kernel_rfl
theorem a6W:yH prog 291=true:=by kernel_rfl
theorem g_:Bz prog 213 278=some .u32:=by kernel_rfl
theorem Vt:CH prog 278=some [.int .u32 0]:=by kernel_rfl
theorem vf (l:List UInt32):D6 (d32 l) l.length<=32*l.length:=by
 have h:=gN (d32 l) l.length;have hb:=tQ l (Ey (d32 l) l.length-1);unfold D6;split<;>omega
def Bt (l:List UInt32):Nd:=.mk 0 2 false (E7 (d32 l) (D6 (d32 l) l.length / 8+1)) []
theorem r9 {c k:Nat}{q:Int}(hl:A3 Bf 1 h a c l) (hq:q=(k:Int)) (hk:k<=65536) (hb:(D6 (d32 l) l.length+7) / 8<=k) :
 F1 prog 291 [.slice a l.length c,.int .i64 q] h (λv h'=>∃ a' c',v=.tuple #[.slice a' (E7 (d32 l) k).length c',.int .i64 0]/\A3 DJ 1 h' a' c' (E7 (d32 l) k)):=by
 subst hq;exact td hl hk hb
theorem wJ {c k:Nat}{q:Int}(hl:A3 Bf 1 h a c l) (hlen:l.length<=1000000) (hq:q=(k:Int)) (hk:k<=65536) (hb:D6 (d32 l) l.length<=8*k) :
 F1 prog 288 [.slice a l.length c,.int .i64 q] h (λv h'=>∃ a' c',v=.tuple #[.slice a' (E7 (d32 l) k).length c',.int .i64 0]/\A3 DJ 1 h' a' c' (E7 (d32 l) k)):=by
 subst hq;exact Tl hl hlen hk hb
theorem Uo {c:Nat}(hl:A3 Bf 1 h a c l) (hlen:l.length<=4096):F1 prog 224 [.slice a l.length c] h (λv h'=>∃ cs,v=.agg (List.toArray cs)/\B9 h' cs (Bt l)):=by
 have P4:=vf l;refine aQ func224 U ntmps224 U (λe he=>?_);refine ba [(0,_)] y9 ?_;have AD:=aP h;refine Sr (bp iQ U (λb1=>?_));refine aj (aK (Sr (Ru 1 U (cj PE U (iz zL) U ?_))));refine Ru 1 U (aj (Cs U (λDv=>?_) λDv=>?_))
 ·exfalso;omega
 refine aO (Sr (Ru 2 U (cj PE U (iz zL) U ?_)));refine aA LF U ?_;refine aA Fc U ?_;refine bS a6W U (r9 (k:=D6 (d32 l) l.length / 8+1) zL xE xE xE) U ?_;rintro _ h5 Mh ⟨wa,wc,rfl,hW⟩
 replace hl:=hl.mono Mh
 replace AD:=AD.mono Mh
 refine Ru 5 U (Nk [3,2] U (Sr (Ru 1 U (bS a7b U (a1C zL) U ?_))));rintro _ h6 P5 ⟨w6,rfl,b2l⟩
 replace hl:=hl.mono P5
 replace AD:=AD.mono P5
 replace hW:=hW.mono P5
 refine aZ ci U U zW lx ly Dn ?_;exact aj (bM (bL U U ci zV Dn) ⟨_,U,by assumption⟩)
theorem a1h {c:Nat}(hl:A3 Bf 1 h a c l) (hlen:l.length<=4096):F1 prog 210 [.slice a l.length c] h (λv h'=>∃ cs,v=.agg (List.toArray cs)/\B9 h' cs (Bt l)):=by
 have P4:=vf l;refine aQ func210 U ntmps210 U (λe he=>?_);refine ba [(0,_)] y9 ?_;have AD:=aP h;refine Sr (bp iQ U (λb1=>?_));refine aj (aK (Sr (Ru 1 U (bS PC U (lB zL xE) U ?_))));rintro _ h2 zH rfl
 replace hl:=hl.mono zH
 replace AD:=AD.mono zH
 refine Ru 1 U (aj (Cs U (λDv=>?_) λDv=>?_))
 ·exfalso;omega
 refine aO (Sr (Ru 2 U (bS PC U (lB zL xE) U ?_)));rintro _ h4 Nt rfl
 replace hl:=hl.mono Nt
 replace AD:=AD.mono Nt
 refine aA LF U ?_;refine aA Fc U ?_;refine bS a6X U (wJ (k:=D6 (d32 l) l.length / 8+1) zL xE xE xE xE) U ?_;rintro _ h5 Mh ⟨wa,wc,rfl,hW⟩
 replace hl:=hl.mono Mh
 replace AD:=AD.mono Mh
 refine Ru 5 U (Nk [3,2] U (Sr (Ru 1 U (aA (bi (cs:=[.int .i64 0,_,.bool false,_,.slice none 0 0]) n8 U U) U ?_))));refine aZ ci U U zW lx ly Dn ?_;exact aj (bM (bL U U ci zV Dn) ⟨_,U,B9.of hW bA⟩)
def DB (n:Int) (j:Nat):Prop:=-128<=n / 256 ^ (j-1)/\n / 256 ^ (j-1)<128
instance (n:Int) (j:Nat):Decidable (DB n j):=by unfold DB;infer_instance
theorem Yr (n:Int) (j:Nat):xF (zU n (j+1)) 0=(n / 256 ^ j % 256).toNat:=by
 show(UInt8.ofNat _).toNat=_;rw [xZ];omega
theorem a2t (n:Int) (j:Nat):xF (zU n (j+2)) 1=(n / 256 ^ j % 256).toNat:=by
 show(UInt8.ofNat _).toNat=_;rw [xZ];omega
theorem pK (n:Int) (j:Nat):n / 256 ^ (j+1)=n / 256 ^ j / 256:=by
 rw [F0,Int.ediv_ediv_of_nonneg (Int.le_of_lt (G' yD))]
theorem pt (n:Int) (j:Nat) (h:DB n (j+2)):AY (zU n (j+2))=decide (¬ DB n (j+1)):=by
 have e0:xF (zU n (j+2)) 0=_:=Yr n (j+1);have e1:=a2t n j;have ed:=pK n j;have hl:=d8 n (j+2);unfold AY;rw [xC xE,xC xE,y7];unfold DB at h |-
 rw [show j+2-1=j+1 from rfl] at h;rw [show j+1-1=j from rfl];generalize n / 256 ^ j=q at *;generalize n / 256 ^ (j+1)=q' at *;omega
theorem ui (n:Int) (j:Nat) (hj:j=0\/¬ DB n j):∀ k,j+1<=k->(∀ i,j+1<=i->i<=k->DB n i)->FK (zU n k)=zU n (j+1)
 |0,h,_=>by omega
 |1,h,_=>by
  have:j=0:=by omega
  subst this;exact gP (by unfold AY;rw [xC (by rw [d8];decide),xD (d8 n 1)])
 |k+2,h,hf=>by
  have Mi:=pt n k (hf (k+2) h (aB _));by_cases hk:k+1=j
  ·subst hk;exact gP (by rw [Mi];exact ae (hj.resolve_left xE))
  ·rw [m_ (by rw [Mi];exact ah (λhn=>hn (hf (k+1) xE xE)))];exact ui n j hj (k+1) xE (λi h1 h2=>hf i h1 xE)
theorem a6y (n:Int) (i:Nat) (h:DB n (i+1)):DB n (i+2):=by
 have ed:=pK n i;unfold DB at *;rw [show i+2-1=i+1 from rfl];rw [show i+1-1=i from rfl] at h;generalize n / 256 ^ i=q at *;generalize n / 256 ^ (i+1)=q' at *;omega
theorem Z4 (n:Int) (j:Nat) (h:DB n (j+1)):∀ i,j+1<=i->DB n i
 |0,h1=>by omega
 |1,h1=>by
  have:j=0:=by omega
  subst this;exact h
 |i+2,h1=>by
  by_cases he:j+1=i+2
  ·rw [<- he];exact h
  ·exact a6y n i (Z4 n j h (i+1) xE)
theorem pC (n:Int) (j:Nat) (hj7:j<=7) (hj:j=0\/¬ DB n j) (h:DB n (j+1)):B2 n=zU n (j+1) :=
 ui n j hj 8 xE (λi h1 _=>Z4 n j h i h1)
theorem a9d (n:Int) (h0:-9223372036854775808<=n) (h1:n<=9223372036854775807):DB n 8:=by
 unfold DB;rw [show(256:Int) ^ (8-1)=72057594037927936 by decide];omega
theorem a0G (q:Int):(q.tmod 256=q % 256/\0<=q.tmod 256)\/(q.tmod 256=q % 256-256/\q.tmod 256<0):=by
 have h1:=Int.tmod_eq_emod (a:=q) (b:=256);have h2:=Int.emod_nonneg q (b:=256) yD;have h3:=Int.emod_lt_of_pos q (b:=256) yD;split at h1
 ·left;omega
 ·right;rw [show((256:Int).natAbs:Int)=256 from rfl] at h1;omega
theorem xG.a5n {f:Fr}{S:AH}{L:LE}{ty T yt:TypeId}{x y:Operand}{q:Int}(hx:ev S x=some (.int .i64 (q-q % 256))) (hy:ev S y=some (.int .i64 256)) (h0:-9223372036854775808<=q) (h1:q<=9223372036854775807):xG f S h L (.binOp .quo T x y yt) ty (.int .i64 (q / 256)):=by
 have:=xG.quo (f:=f) (h:=h) (L:=L) (ty:=ty) (T:=T) (yt:=yt) hx hy yD;have e:(q-q % 256).tdiv 256=q / 256:=by
  have:q-q % 256=256*(q / 256):=by omega
  rw [this,Int.mul_tdiv_cancel_left _ yD]
 rwa [e,fB _ xE xE] at this
def Fh (l:List UInt32):List UInt32:=l.take (Ey (d32 l) l.length)
def M5 (x:UInt64):UInt32:=UInt32.ofNat x.toNat
theorem a29 (x:UInt32):M5 (m64 x)=x:=by
 unfold M5;rw [pm];simp
theorem a27 (x:UInt64) (h:x.toNat<4294967296):(M5 x).toNat=x.toNat:=by
 unfold M5;rw [Ed];omega
theorem Zw (l:List UInt64):(Hy l).length<=l.length:=by unfold Hy;rw [aS];omega
theorem a2U (l:List UInt64) (i:Nat):d64 (Hy l) i=d64 l i:=vP _ _ _ (λi h1 h2=>lz _ _ i h1 h2)
theorem TH {c:Nat}{L:List UInt64}(hl:A3 C8 1 h a c L) (hd:∀ i,d64 L i<4294967296) (hlen:L.length<=1000000):F1 prog 270 [.slice a L.length c] h (λv h'=>∃ a' c',v=.slice a' ((Hy L).map M5).length c'/\A3 Bf 1 h' a' c' ((Hy L).map M5)):=by
 have Ia:=Zw L;obtain⟨K,hK⟩:∃ K,K=Hy L:=⟨_,U⟩;have hdK:∀ i,d64 K i<4294967296:=λi=>by rw [hK,a2U];exact hd i
 rw [<- hK] at Ia |-
 have FH:(K.map M5).length=K.length:=aq ..;refine aQ func270 U ntmps270 U (λe he=>?_);refine ba [(0,_)] y9 ?_;refine Sr (Ru 1 U (aj (Sr (Ru 1 U (bS ZU U ((hK ▸ Zv zL:F1 _ _ _ _ (λv h'=>∃ a' c',v=.slice a' K.length c'/\A3 C8 1 h' a' c' K))) U ?_)))));rintro _ h1 Gd ⟨da,dc,rfl,hD⟩
 replace hl:=hl.mono Gd
 refine Ru 1 U (aj (Sr (Ru 1 U (aj (aK (Sr (dh 278 1 ?_)))))));refine Ru 1 U (aj (aV (bU (λt_ S_ h_ L_=>∃ (g:Part) (i:Nat) (ao:OA) (co:Nat) (xs:LV),t_=K.length-i/\S_=[(0,.slice da K.length dc),(3,.slice ao ((K.map M5).take i).length co),(4,.int .i64 i)]/\g=h_/\L_=[.row ao co 278 1 ((K.map M5).take i).length xs]/\(h1.le g/\i<=K.length/\yl Bf 1 g xs ((K.map M5).take i))) ⟨_,_,?_,⟨_,0,_,_,_,U,U,U,U,⟨aP _,by omega,bQ⟩⟩⟩ ?_)))
 ·exact Du
 rintro _ _ _ _ ⟨g,i,ao,co,xs,rfl,rfl,rfl,rfl,J9,hi,hC⟩;have hD:=hD.mono J9;refine aK (Sr (Ru 4 U (aj (Cs U (λBO=>?_) λBO=>?_))))
 ·have J8:i<K.length:=xE;have Bx:i<(K.map M5).length:=xE;have htl:((K.map M5).take i).length=i:=(by rw [aS];omega);have hke:(K.map M5).take i++[M5 (K[i]'J8)]=(K.map M5).take (i+1):=(by rw [ai Bx,Ba]);have hki:(K[i]'J8).toNat<4294967296:=(by have:=hdK i;have e:=rF K i J8;omega);refine aO (aK (aV (Rg (Ru 3 U (cX (aX dk U U n7 zL U xE) U ?_)))));rintro _ ⟨b3,o3,hi3,rfl,hE3⟩;refine aA (bG e_ U zL) U ?_;refine aA (by first|exact xG.NL g_ rfl xE xE|exact cB g_ rfl) U ?_;refine du SF Vt U U U U U (λb5=>?_);refine di SF U U zL U zW zW U ((by show _=_;rw [a27 _ hki]:Bf _ [.int .u32 (K[i].toNat:Int)] (M5 K[i]))) LD U U (λa6 c6 xs6 hC6 hN6=>?_);exact m84
 refine bJ (Kp [3] U (Sr (Ru 1 U ?_)));have hke:(K.map M5).take i=K.map M5:=aD xE;rw [hke] at hC |-;refine JL.LZ (R:=Bf) zW zL U xE (λh9 FT MC=>?_)
 exact Ru 1 U (aj (bM (aW U U) ⟨_,_,U,by assumption⟩))
variable{bs:LB}{k:Bool}{ks:LN}
theorem VB {c t:Int}{cs:LV}(r:B9 h cs (.mk c t k bs ks)) (hT:D_ h) (CP:(Nd.mk c t k bs ks).sz<=1073741824) :
 Pure prog 84 [.agg cs.toArray] h (.bool ((decide (c=0)&&(decide (t=2)||decide (t=10)))&&(Nd.mk c t k bs ks).put.isSome)):=by
 obtain⟨ka,kca,kb,kcb,rfl,hka,hkb⟩:=r.inv;refine Pure.ofV ?_;refine aQ func84 U ntmps84 U (λe he=>?_);refine ba [(0,_)] y9 ?_;refine Sr (JL.box U U U (λb1=>?_));refine Ru 1 U (aj (Sr (Ru 1 U (aA (aG fN U zV U) U ?_))));refine Ru 2 U ?_;apply An 6 15 9 [2,1] U U
 ·intro Ku BO;refine Ru 1 U (bz U U  (aG fN U zV U) U ?_);refine Ru 2 U ?_;apply On 10 14 4 [6,2,1] U U
  rotate_left
  ·intro Pf Dv;refine Ru 1 U (bz U U  (aG fN U zV U) U ?_);exact Ru 2 U (Ae (a1P Pf U) U)
  rotate_right
  ·exact λPf _=>Ru 4 U (Ae (a1O Pf U) U)
  exact Ru 1 U (Ae (a9C Ku U) U)
 ·exact λKu _=>Ru 9 U (Ae (a9D Ku U) U)
 refine Ru 1 U ?_;apply An 16 19 3 [2] U U
 ·intro hb4 J';refine bz U U  (bK ci U zV Dn) U ?_;refine JL.Iv U U  a9x U (WR r hT CP) U ?_;exact Ru 1 U (Ae (a9C hb4 U) U)
 ·exact λhb4 _=>Ru 3 U (Ae (a9D hb4 U) U)
 exact Ru 1 U (aj (J.Tp (aW U U) U))
theorem rT (x y:Int) (hx:x % 256=0) (hx0:-9223372036854775808<=x) (hx1:x<=9223372036854775807) (hy0:0<=y) (hy1:y<256):bits .or .i64 x y=x+y:=by
 have e1:(BitVec.ofInt 64 x).toNat=(x % 18446744073709551616).toNat:=by rw [BitVec.toNat_ofInt];rfl
 have e2:(BitVec.ofInt 64 y).toNat=y.toNat:=by rw [BitVec.toNat_ofInt,show(((2 ^ 64:Nat):Int))=18446744073709551616 from rfl];omega
 show IntKind.i64.wrap (((BitVec.ofInt 64 x) ||| (BitVec.ofInt 64 y)).toNat:Nat)=x+y;rw [BitVec.toNat_or,e1,e2];obtain⟨q,hq⟩:∃ q:Nat,(x % 18446744073709551616).toNat=2 ^ 8*q:=⟨(x % 18446744073709551616).toNat / 256,by omega⟩;rw [hq,<- Nat.two_pow_add_eq_or_of_lt (show y.toNat<2 ^ 8 by omega) q,IntKind.wrap_i64];omega
theorem xG.a2o {f:Fr}{S:AH}{L:LE}{ty T yt:TypeId}{x y:Operand}{p q:Int}(hx:ev S x=some (.int .i64 p)) (hy:ev S y=some (.int .i64 q)) (hp:p % 256=0) (h0:-9223372036854775808<=p) (h1:p<=9223372036854775807) (TW:0<=q) (hq:q<256):xG f S h L (.binOp .or T x y yt) ty (.int .i64 (p+q)):=by
 have:=xG.or_ (f:=f) (h:=h) (L:=L) (ty:=ty) (T:=T) (yt:=yt) hx hy;rwa [rT p q hp h0 h1 TW hq] at this
def vL:List UInt32->Nat
 |[]=>0
 |x::r=>x.toNat+4294967296*vL r
theorem SZ (l r:List UInt32):vL (l++r)=vL l+4294967296 ^ l.length*vL r:=by
 induction l with
 |nil=>simp [vL]
 |cons x t ih =>
  simp only [xX,vL,ih,aw,yh];rw [Nat.mul_add,<- Ds,zP (4294967296 ^ t.length),CG]
theorem MM (l:List UInt32):vL l<4294967296 ^ l.length:=by
 induction l with
 |nil=>simp [vL]
 |cons x t ih =>
  have hx:=Eu x;simp only [vL,aw,yh];omega
theorem a4v (l:List UInt32) (i:Nat) (x:UInt32) (h:i<l.length):vL (l.set i x)+d32 l i*4294967296 ^ i=vL l+x.toNat*4294967296 ^ i:=by
 induction l generalizing i with
 |nil=>simp at h
 |cons y t ih =>
  cases i with
  |zero=>simp [vL,d32];omega
  |succ i =>
   have:=ih i (by simpa using h);simp only [List.set_cons_succ,vL,yh];have e:d32 (y::t) (i+1)=d32 t i:=rfl;rw [e,<- Ds,<- Ds];omega
theorem fC (l:List UInt32) (i:Nat):vL l / 4294967296 ^ i % 4294967296=d32 l i:=by
 induction l generalizing i with
 |nil=>simp [vL,d32]
 |cons y t ih =>
  have hy:=Eu y;cases i with
  |zero=>simp only [vL,GY,G8];show _=y.toNat;omega
  |succ i =>
   have e:d32 (y::t) (i+1)=d32 t i:=rfl;rw [e,<- ih i,yh,zP (4294967296 ^ i),<- zm];congr 2;simp only [vL];omega
theorem qe (l:List UInt32) (k:Nat) (h:k<=l.length):vL l=vL (l.take k)+4294967296 ^ k*vL (l.drop k):=by
 have:=SZ (l.take k) (l.drop k);rw [AG,aS,Gp h] at this;exact this
theorem a0z (l:List UInt32) (h:∀ i,i<l.length->d32 l i=0):vL l=0:=by
 induction l with
 |nil=>rfl
 |cons x t ih =>
  have h0:x.toNat=0:=h 0 (by simp);have:=ih (λi hi=>h (i+1) (by simpa using hi));simp only [vL];omega
theorem Zn (l:List UInt32) (k i:Nat):d32 (l.drop k) i=d32 l (k+i):=by
 unfold d32;simp
def DC:Nat->Nat->List UInt32
 |0,_=>[]
 |m+1,v=>UInt32.ofNat v::DC m (v / 4294967296)
theorem cH (m v:Nat):(DC m v).length=m:=by induction m generalizing v with
 |zero=>rfl
 |succ m ih=>simp [DC,ih]
theorem iS (m v:Nat):vL (DC m v)=v % 4294967296 ^ m:=by
 induction m generalizing v with
 |zero=>simp [vL,DC,Lx]
 |succ m ih =>
  simp only [DC,vL,ih,Ed];rw [show(4294967296:Nat) ^ (m+1)=4294967296*4294967296 ^ m by rw [yh,zP],Nat.mod_mul]
theorem tA (l:List UInt32):DC l.length (vL l)=l:=by
 induction l with
 |nil=>rfl
 |cons x t ih =>
  have hx:=Eu x;simp only [aw,DC,vL];rw [show(x.toNat+4294967296*vL t) / 4294967296=vL t by omega,ih];congr 1;apply UInt32.toNat_inj.1;rw [Ed];omega
theorem a4w {l r:List UInt32}(h:l.length=r.length) (e:vL l=vL r):l=r:=by
 rw [<- tA l,<- tA r,h,e]
theorem RT (m v i:Nat) (h:i<m):d32 (DC m v) i=v / 4294967296 ^ i % 4294967296:=by
 rw [<- fC,iS];obtain⟨k,rfl⟩:∃ k,m=i+(k+1):=⟨m-i-1,by omega⟩;rw [DO,Nat.mod_mul_right_div_self,yh,Nat.mod_mul_left_mod]
theorem Y5 (n:Nat):n<2 ^ bl n:=by
 unfold bl;split
 ·rename_i h;subst h;decide
 ·exact Nat.lt_log2_self
theorem a4e (n k:Nat) (h:2 ^ k<=n):k+1<=bl n:=by
 rcases A9 k (bl n) with h1|h1
 ·exact h1
 ·have h2:=Y5 n;have:=yf (show 0<2 by decide) h1;omega
theorem wh (n:Nat) (h:0<n):2 ^ (bl n-1)<=n/\1<=bl n:=by
 unfold bl;rw [xC xE];exact⟨Nat.log2_self_le xE,by omega⟩
def nd (n:Nat):Nat:=(bl n+31) / 32
def CV (n:Nat):List UInt32:=DC (nd n) n
theorem qO (k:Nat):(4294967296:Nat) ^ k=2 ^ (32*k):=by rw [CB]
theorem th (n:Nat):n<4294967296 ^ nd n:=by
 rw [qO];exact zi (Y5 n) (yf yD (by unfold nd;omega))
theorem gL (n:Nat):vL (CV n)=n:=by
 unfold CV;rw [iS,zx (th n)]
theorem a8q (n t:Nat) (h:n<4294967296 ^ (t+1)) (h0:4294967296 ^ t<=n):nd n=t+1:=by
 rw [qO] at h h0;have h1:=n9 _ _ h;have h2:=a4e _ _ h0;unfold nd;omega
theorem a3M (n t:Nat) (h:n<4294967296 ^ t):nd n<=t:=by
 rw [qO] at h;have h1:=n9 _ _ h;unfold nd;omega
theorem jQ (n:Nat):(CV n).length=nd n:=cH _ _
theorem a25:nd 0=0:=rfl
theorem OW (n:Nat) (h:0<n):4294967296 ^ (nd n-1)<=n/\1<=nd n:=by
 have h1:=wh n h;rw [qO];exact⟨xJ (yf yD (by unfold nd;omega)) h1.1,by unfold nd;omega⟩
theorem VL (l:List UInt32):vL l=vL (Fh l):=by
 have ht:=gN (d32 l) l.length;have hz:vL (l.drop (Ey (d32 l) l.length))=0:=a0z _ (λi hi=>by
  rw [Zn];rw [aM] at hi;exact lz (d32 l) l.length _ xE xE)
 rw [qe l _ ht,hz];rfl
theorem Zm (l:List UInt32) (k i:Nat) (h:i<k):d32 (l.take k) i=d32 l i:=by
 unfold d32;simp [h]
theorem qg (l:List UInt32):Ey (d32 l) l.length=nd (vL l):=by
 have ht:=gN (d32 l) l.length;have TV:=PT (d32 l) l.length;have yJ:=MM (Fh l);have hlen:(Fh l).length=Ey (d32 l) l.length:=by unfold Fh;rw [aS];omega
 rw [VL l];cases hk:Ey (d32 l) l.length with
 |zero =>
  have:Fh l=[]:=xI xE;rw [this];rfl
 |succ t =>
  rw [hk] at TV hlen;have h0:=TV xE;rw [show t+1-1=t from rfl] at h0;have h1:vL (Fh l) / 4294967296 ^ t % 4294967296≠0:=by
   rw [fC];unfold Fh;rw [hk,Zm _ _ _ xE];exact h0
  rw [hlen] at yJ;refine(a8q _ _ yJ ?_).symm;rcases A9 (vL (Fh l)) (4294967296 ^ t) with h2|h2
  ·rw [BP h2] at h1;simp at h1
  ·exact h2
theorem gk (l:List UInt32):Fh l=CV (vL l):=by
 have ht:=gN (d32 l) l.length;have hlen:(Fh l).length=nd (vL l):=by unfold Fh;rw [aS,<- qg];omega
 unfold CV;rw [<- hlen,VL l,tA]
theorem cT (l:List UInt32):D6 (d32 l) l.length=bl (vL l):=by
 unfold D6;rw [qg];split
 ·rename_i h;rcases B_ (vL l) with h0|h0
  ·rw [h0];rfl
  ·have:=OW _ h0;omega
 ·rename_i h;have h0:0<vL l:=by
   rcases B_ (vL l) with h0|h0
   ·rw [h0] at h;exact m196
   ·exact h0
  have h1:=OW _ h0;rw [qO] at h1;rw [wg _ _ h1.1];congr 2;rw [<- qO,<- fC];refine zx ?_;have h2:=th (vL l);obtain⟨t,e⟩:∃ t,nd (vL l)=t+1:=⟨nd (vL l)-1,by omega⟩;rw [e] at h2 |-
  rw [yh] at h2;exact G9 h2
def DN (b:LB):Nat:=b.foldl (λv c=>v*256+c.toNat) 0
theorem wl (b:LB) (v:Nat):b.foldl (λv c=>v*256+c.toNat) v=v*256 ^ b.length+DN b:=by
 induction b generalizing v with
 |nil=>simp [DN]
 |cons x t ih =>
  unfold DN;simp only [Cm,aw,Jt,A0];rw [ih,ih x.toNat,yh,D',Ds,zP 256,CG]
theorem fe (x:UInt8) (t:LB):DN (x::t)=x.toNat*256 ^ t.length+DN t:=by
 show t.foldl _ _=_;rw [wl];simp
theorem xw (l r:LB):DN (l++r)=DN l*256 ^ r.length+DN r:=by
 unfold DN;rw [SQ,wl];rfl
theorem iO (b:LB):DN b<256 ^ b.length:=by
 induction b with
 |nil=>simp [DN]
 |cons x t ih =>
  have hx:=zA x;rw [fe,aw,yh];have:x.toNat*256 ^ t.length<=255*256 ^ t.length:=aT _ xE;omega
theorem a7n (k n:Nat):DN (be k n)=n % 256 ^ k:=by
 induction k with
 |zero=>simp [be,DN,Lx]
 |succ k ih =>
  simp only [be];rw [fe,ih,lr,xZ,show(256:Nat) ^ (k+1)=256 ^ k*256 from yh ..,Nat.mod_mul,zP,SM]
theorem a7k (k n:Nat):be k (n % 256 ^ k)=be k n:=by
 have key:∀ j,j<=k->be j (n % 256 ^ k)=be j n:=by
  intro j
  induction j with
  |zero=>intro _;rfl
  |succ j ih =>
   intro hj;simp only [be];rw [ih xE];congr 1;apply zh.1;rw [xZ,xZ];obtain⟨i,rfl⟩:∃ i,k=j+(i+1):=⟨k-j-1,by omega⟩;rw [DO,Nat.mod_mul_right_div_self,yh];exact Nat.mod_mul_left_mod _ _ _
 exact key k (aB _)
theorem a7l (b:LB):be b.length (DN b)=b:=by
 induction b with
 |nil=>rfl
 |cons x t ih =>
  have hx:=zA x;have ht:=iO t;simp only [aw,be];rw [fe];congr 1
  ·apply zh.1;rw [xZ,zP,Nat.mul_add_div (G7 yD),BP ht];omega
  ·rw [<- a7k,zP,Nat.mul_add_mod,zx ht,ih]
theorem a7N (l:List UInt32) (i:Nat):wB (d32 l) i=UInt8.ofNat (vL l / 256 ^ i):=by
 apply zh.1;unfold wB;rw [xZ,xZ,<- fC];obtain⟨q,r,hr,rfl⟩:∃ q r,r<4/\i=4*q+r:=⟨i / 4,i % 4,by omega,by omega⟩;rw [show(4*q+r) / 4=q by omega,show(4*q+r) % 4=r by omega,DO,CB,<- zm];rw [show(256:Nat) ^ 4=4294967296 from rfl];generalize vL l / 4294967296 ^ q=v;have:r=0\/r=1\/r=2\/r=3:=by omega
 rcases this with rfl|rfl|rfl|rfl<;>simp only [Nat.reducePow]<;>omega
theorem p9 (l:List UInt32) (k:Nat):E7 (d32 l) k=be k (vL l):=by
 induction k with
 |zero=>rfl
 |succ k ih=>simp only [E7,be,ih,a7N]
theorem a0_ (b:LB) (i:Nat) (h:i<b.length):DN (b.drop (b.length-(i+1)))=xF b (b.length-1-i)*256 ^ i+DN (b.drop (b.length-i)):=by
 have e:b.drop (b.length-(i+1))=b[b.length-1-i]::b.drop (b.length-i):=by
  rw [show b.length-(i+1)=b.length-1-i by omega,aL xE];congr 2;omega
 rw [e,fe,aM,show b.length-(b.length-i)=i by omega];unfold xF;rw [aJ,aH xE];rfl
theorem tT (b:LB) (i:Nat) (h:i<=b.length):DN (b.drop (b.length-i))<256 ^ i:=by
 have:=iO (b.drop (b.length-i));rwa [aM,show b.length-(b.length-i)=i by omega] at this
theorem Un (m v c i:Nat) (hv:v<256 ^ i) (hc:c<256) (hm:i / 4<m):DC m (v+c*256 ^ i)=(DC m v).set (i / 4) (UInt32.ofNat (v / 4294967296 ^ (i / 4)+c*256 ^ (i % 4)))/\v / 4294967296 ^ (i / 4)<256 ^ (i % 4):=by
 obtain⟨q,r,hr,rfl⟩:∃ q r,r<4/\i=4*q+r:=⟨i / 4,i % 4,by omega,by omega⟩;have e1:(4*q+r) / 4=q:=by omega
 have e2:(4*q+r) % 4=r:=by omega
 have e3:(256:Nat) ^ (4*q+r)=4294967296 ^ q*256 ^ r:=by rw [DO,CB]
 rw [e1] at hm;rw [e1,e2];rw [e3] at hv |-
 have hB:0<4294967296 ^ q:=G7 yD;have b0O:v / 4294967296 ^ q<256 ^ r:=G9 hv;refine⟨?_,b0O⟩;have hr4:(256:Nat) ^ r*256<=4294967296:=by
  have:r=0\/r=1\/r=2\/r=3:=by omega
  exact m175
 have hcr:c*256 ^ r<=255*256 ^ r:=aT _ xE;have a6a:v / 4294967296 ^ q+c*256 ^ r<4294967296:=by omega
 refine a4w (by simp [cH]) ?_;have hs:=a4v (DC m v) q (UInt32.ofNat (v / 4294967296 ^ q+c*256 ^ r)) (by rw [cH];exact hm);rw [RT m v q hm,iS,Ed,zx (show v / 4294967296 ^ q<4294967296 by omega)] at hs;have CP:(2:Nat) ^ 32=4294967296:=rfl;rw [CP,zx a6a] at hs;have Yw:4294967296 ^ q*4294967296<=4294967296 ^ m:=by
  rw [<- yh];exact yf yD hm
 have NA:v+c*(4294967296 ^ q*256 ^ r)<4294967296 ^ m:=by
  have h1:c*(4294967296 ^ q*256 ^ r)<=4294967296 ^ q*(255*256 ^ r):=by
   rw [Nat.mul_left_comm];exact MJ _ hcr
  have h2:4294967296 ^ q*(256 ^ r*256)<=4294967296 ^ q*4294967296:=MJ _ hr4;have h3:4294967296 ^ q*(256 ^ r*256)=4294967296 ^ q*(255*256 ^ r)+4294967296 ^ q*256 ^ r:=by
   rw [<- Nat.mul_add];congr 1;omega
  omega
 have hvm:v<4294967296 ^ m:=by omega
 rw [iS,zx NA];rw [zx hvm,D'] at hs;have:c*256 ^ r*4294967296 ^ q=c*(4294967296 ^ q*256 ^ r):=by rw [Ds,zP (256 ^ r)]
 omega
theorem ub (v:Nat):v / 256 ^ (bl v / 8)<128:=by
 refine G9 ?_;rw [show(256:Nat) ^ (bl v / 8)=2 ^ (8*(bl v / 8)) by rw [CB],show(128:Nat)=2 ^ 7 from rfl,<- DO];exact zi (Y5 v) (yf yD xE)
theorem a3f (v:Nat):DN (be (bl v / 8+1) v)=v:=by
 rw [a7n];refine zx ?_;have:=ub v;rw [yh];have h0:0<256 ^ (bl v / 8):=G7 yD;have:=(Nat.div_lt_iff_lt_mul h0).1 this;rw [zP] at this;omega
theorem sw (v k:Nat) (hk:bl v / 8=k+1) (h0:v / 256 ^ (k+1)=0):128<=v / 256 ^ k:=by
 have hv:0<v:=by
  rcases B_ v with rfl|h
  ·simp [bl] at hk
  ·exact h
 have h1:=(wh v hv).1;have h2:2 ^ (8*(k+1)-1)<=v:=xJ (yf yD xE) h1;refine(Nat.le_div_iff_mul_le (G7 yD)).2 ?_;rw [show(256:Nat) ^ k=2 ^ (8*k) by rw [CB],show(128:Nat)=2 ^ 7 from rfl,<- DO];exact xJ (yf yD xE) h2
def ws (k:IntKind) (l:List UInt32):LV:=l.map λx=>.int k (x.toNat:Int)
theorem a4r (k:IntKind) (l:List UInt32):(ws k l).length=l.length:=by simp [ws]
theorem a4q (k:IntKind) (l:List UInt32) (i:Nat) (x:UInt32):(ws k l).set i (.int k (x.toNat:Int))=ws k (l.set i x):=by simp [ws,List.map_set]
theorem a2T (l:List UInt32) (i:Nat) (h:i<l.length):d32 l i=l[i].toNat:=by unfold d32;simp [h]
theorem a7H (k:IntKind) (l:List UInt32) (i:Nat) (h:i<l.length):(ws k l)[i]?=some (.int k (d32 l i:Nat)):=by
 rw [a2T l i h];simp [ws,h]
theorem rD:∀ m,DC m 0=List.replicate m 0
 |0=>rfl
 |m+1=>by rw [DC,Nat.zero_div,rD m];rfl
theorem a0t (k:IntKind) (m:Nat):List.replicate m (Value.int k 0)=ws k (DC m 0):=by rw [rD];simp [ws]
theorem yl.QL :yl Bf 1 h (ws .u32 l) l:=⟨by simp [ws],λi x hx=>by
 unfold Bf;rw [DP,NV,Kl];simp [ws,hx]⟩
theorem yl.a1T :yl C8 1 h (ws .u64 l) (l.map m64):=⟨by simp [ws],λi x hx=>by
 unfold C8;rw [DF,zl] at hx;obtain⟨y,hy,rfl⟩:=hx;rw [DP,NV,Kl,pm];simp [ws,hy]⟩
theorem vQ (l:List UInt32):Hy (l.map m64)=(CV (vL l)).map m64:=by
 rw [<- gk];unfold Hy Fh;rw [qh (mR l),aq,List.map_take]
theorem a2b (l:List UInt32):(l.map m64).map M5=l:=by
 rw [yv];conv=>rhs;rw [<- Ag l]
 exact xO (λx _=>a29 x)
section
variable {f:Fr}{n:yF}{x:Nat->yF}{S:AH}{h:Part}{L L':LE}{ops:Array Oper}{rest:LR}
variable {ty:TypeId}{pos:String}{af:Array Edge}{d:Nat}{v:Value}{T:TypeId}{xo yo:Operand}
theorem xG.a7J {g c t m i:Nat}{k:IntKind}(hT:AF f.P T=some none) (hx:ev S xo=some (.pointer (some ⟨g,i,none⟩))) (hm:Br.row (some ⟨g,0,none⟩) c t 1 m (ws k l)∈L) (hi:i<l.length):xG f S h L (.load T xo) ty (.int k (d32 l i:Nat)) :=
 xG.Qj hT hx hm (a7H k l i hi)
theorem JL.a4N (t0:Nat) {g c t m i:Nat}{k:IntKind}{p:Int}{l:List UInt32}(hT:AF f.P T=some none) (hx:ev S xo=some (.pointer (some ⟨g,i,none⟩))) (hy:ev S yo=some (.int k p)) (hp:p=((t0 % 4294967296:Nat):Int)) (u:Dt (.row (some ⟨g,0,none⟩) c t 1 m (ws k l)) L L') (hi:i<l.length)
 (kk:JL f ops n x rest S h (.row (some ⟨g,0,none⟩) c t 1 m (ws k (l.set i (UInt32.ofNat t0)))::L')):JL f ops n x (⟨none,.store T xo yo,ty,pos,af,none⟩::rest) S h L:=by
 refine JL.HH hT hx hy U u (by rw [a4r];exact hi) ?_;have e:p=((UInt32.ofNat t0).toNat:Int):=by rw [hp,Ed]
 rw [e,a4q];exact kk
theorem JL.a8c {c t m:Nat}{l0:LR}(u:Dt (.row a c t 1 m (ws .u32 l)) L L') (hn:m=l.length) (hb:l.length<=140737488355328) (k:∀ h',h.le h'->A3 Bf 1 h' a c l->JL f ops n x l0 S h' L'):JL f ops n x l0 S h L :=
 JL.LZ u yl.QL hn hb k
end
theorem a71:yH prog 259=true:=by kernel_rfl
theorem ZT:yH prog 319=true:=by kernel_rfl
theorem a4d:yH prog 84=true:=by kernel_rfl
theorem Zr:Bz prog 136 2=some .i64:=by kernel_rfl
theorem Zq:Bz prog 5 136=some .i8:=by kernel_rfl
theorem Pt:Bz prog 5 2=some .i64:=by kernel_rfl
theorem Zp:Bz prog 5 278=some .u32:=by kernel_rfl
theorem a8v:mkT prog 49=some (278,.int .u32 0,4):=by kernel_rfl
theorem wX {c:Nat}(hl:A3 Bf 1 h a c l) (Mi:l.length<=1073741824):F1 prog 319 [.slice a l.length c] h (λv h'=>∃ a' c',v=.slice a' (CV (vL l)).length c'/\A3 Bf 1 h' a' c' (CV (vL l))):=by
 have GU:=hl.GX;have ht:=gN (d32 l) l.length;have htr:l.take (Ey (d32 l) l.length)=CV (vL l):=gk l;have hlen:(CV (vL l)).length=Ey (d32 l) l.length:=by rw [jQ,qg]
 refine aQ func319 U ntmps319 U (λe he=>?_);refine ba [(0,_)] y9 ?_;have AD:=aP h;refine Sr (Ru 1 U (aj (Sr (Ru 1 U (cj vZ U (iy zL) U ?_)))));refine Ru 1 U (aj (aK (Sr (Ru 2 U (aj (Cs U (λBO=>?_) λBO=>?_))))))
 ·have h0:CV (vL l)=[]:=xI xE;refine Sr (Ru 1 U (Nk [2,3,0] U ?_));rw [h0];exact bM (aW U U) ⟨none,0,U,bA⟩
 refine aO (Kp [3,2,0] U (Sr (Ru 2 U (cX (AB.NK jT (m:=Ey (d32 l) l.length) U U U hl U xE) U ?_))));rintro _ ⟨a9,c9,rfl,MC⟩;rw [htr] at MC |-;refine dh 278 1 ?_
 refine JL.append (R:=Bf) SF U U bQ U MC U zW (by simp only [ay];omega) U U (λa8 c8 xs8 hC8 hN8=>?_);simp only [xP] at hC8 |-;refine JL.LZ (R:=Bf) zW hC8 U xE (λh9 FT hP9=>?_)
 exact Ru 1 U (Nk [2] U (bM (aW U U) ⟨_,_,U,hP9⟩))
theorem mE {c n:Nat}(hl:A3 Bf 1 h a c l) (hn:n=l.length) (Mi:n<=1073741824):F1 prog 319 [.slice a n c] h (λv h'=>∃ a' c',v=.slice a' (CV (vL l)).length c'/\A3 Bf 1 h' a' c' (CV (vL l))):=by
 subst hn;exact wX hl Mi
theorem a4V (i:Nat):(2:Int) ^ (8*((i:Int) % 4)).toNat=((256 ^ (i % 4):Nat):Int):=by
 have:(8*((i:Int) % 4)).toNat=8*(i % 4):=by omega
 rw [this,Gr,Int.pow_mul];rfl
theorem a9V (j:Nat):(2:Int) ^ (8*j)=((256 ^ j:Nat):Int):=by rw [Gr,Int.pow_mul];rfl
theorem rS (k:IntKind) (p q:Int):bits .or k p q=bits .or k q p:=by
 show k.wrap _=k.wrap _;rw [BitVec.or_comm]
theorem xG.TS {f:Fr}{S:AH}{L:LE}{ty T yt:TypeId}{x y:Operand}{p q:Int}(i:Nat) (D:Int) (hx:ev S x=some (.int .u32 p)) (hy:ev S y=some (.int .u32 q)) (hD:(2:Int) ^ i=D) (h0:0<=q) (hp:q % D=0) (h1:q<=4294967295) (TW:0<=p) (hq:p<D) (hq1:p<=4294967295):xG f S h L (.binOp .or T x y yt) ty (.int .u32 (p+q)):=by
 have:=xG.or_ (f:=f) (h:=h) (L:=L) (ty:=ty) (T:=T) (yt:=yt) hx hy;rwa [rS,bits_join .u32 32 yD ne i q p h0 (by rw [hD];exact hp) xE TW (by rw [hD];exact hq) xE,Int.add_comm] at this
theorem b0a (r:Nat) (h:r<4):256 ^ r=1\/256 ^ r=256\/256 ^ r=65536\/256 ^ r=16777216:=by
 have:r=0\/r=1\/r=2\/r=3:=by omega
 rcases this with rfl|rfl|rfl|rfl<;>simp
theorem wY {c:Nat}{l:LB}(hl:A3 DJ 1 h a c l) (hlen:l.length<=1073741824):F1 prog 259 [.slice a l.length c] h (λv h'=>∃ a' c',v=.slice a' (CV (DN l)).length c'/\A3 Bf 1 h' a' c' (CV (DN l))):=by
 refine aQ func259 U ntmps259 U (λe he=>?_);refine ba [(0,_)] y9 ?_;have AD:=aP h;refine Sr (Ru 1 U (aj (Sr (Ru 2 U (aA Fc U ?_)))));refine aA LF U ?_;refine JL.Y1 a8v U U (m:=(l.length+3) / 4) xE xE xE U U (λb1=>?_);rw [a0t];refine Ru 1 U (Nk [3,2,0] U (aK (Sr (Ru 3 U (aj (aV (bU (λt_ S_ h_ L_=>∃ (i v:Nat),t_=l.length-i/\S_=[(0,.slice a l.length c),(3,.slice (some ⟨b1,0,none⟩) ((l.length+3) / 4) ((l.length+3) / 4)),(12,.int .i64 l.length),(13,.int .i64 i)]/\h=h_/\L_=[.row (some ⟨b1,0,none⟩) ((l.length+3) / 4) 278 1 ((l.length+3) / 4) (ws .u32 (DC ((l.length+3) / 4) v))]/\(i<=l.length/\v=DN (l.drop (l.length-i)))) ⟨_,_,?_,⟨0,0,U,U,U,U,⟨by omega,by simp [DN]⟩⟩⟩ ?_)))))))
 ·exact Du
 rintro _ _ _ _ ⟨i,v,rfl,rfl,rfl,rfl,hi,hv⟩;refine Sr (Ru 1 U (aj (aK (Cs U (λBO=>?_) λBO=>?_))))
 ·have Bx:i<l.length:=xE;have hvl:=tT l i xE;have Nz:=bn l (l.length-1-i);have hdb:=Un ((l.length+3) / 4) _ _ i hvl Nz xE;have DW:=a0_ l i Bx;have hd0:=RT ((l.length+3) / 4) (DN (l.drop (l.length-i))) (i / 4) xE;have hr4:=b0a (i % 4) xE;have hbe:=bW l (l.length-1-i) xE;rw [<- hv] at hvl hdb DW hd0;have hsb:xF l (l.length-1-i)*256 ^ (i % 4)<=4278190080:=(by rcases hr4 with e|e|e|e<;>rw [e]<;>omega);have a6a:v / 4294967296 ^ (i / 4)+xF l (l.length-1-i)*256 ^ (i % 4)<4294967296:=(by have:=hdb.2;rcases hr4 with e|e|e|e<;>rw [e] at this |-<;>omega);have hdd:d32 (DC ((l.length+3) / 4) v) (i / 4)=v / 4294967296 ^ (i / 4):=(by rw [hd0];exact zx xE);refine aO (aK (aV (Sr (Ru 2 U (aj (Sr (Ru 2 U (aA GP U ?_))))))));refine Ru 1 U (aA GP U ?_);refine Ru 1 U (aj (J.held ([]) 17 dY U (λCR=>?_)));refine Tk 0 U (aY U) ?_;refine Tk 1 U (aY U) ?_;refine Tk 2 U LF ?_;refine Tk 3 U (xG.Fw jT (m:=i / 4) U U xE xE) ?_;refine Tk 5 U (aY U) ?_;refine Tk 6 U (aY U) ?_;refine Te 7 U (aX (m:=l.length-1-i) gH U U xE hl U xE) ?_;rintro _ ⟨b8,o8,hi8,rfl,hE8⟩;refine Tk 8 U ((hbe ▸ xG.JW KZ U hE8:xG _ _ _ _ _ _ (.int .u8 (xF l (l.length-1-i):Nat)))) ?_;refine Tk 9 U (xG.NL Zp U xE xE) ?_;refine Tk 10 U (aY U) ?_;refine Tk 11 U (by first|exact xG.J5 rfl rfl xE xE|exact xG.rem rfl rfl xE) ?_;refine Tk 12 U Oc ?_;refine Tk 13 U (xG.a0W ((256 ^ (i % 4):Nat):Int) U U xE xE (a4V i) (by rw [<- bZ];omega) (by rw [<- bZ];omega)) ?_;refine Ta 4 U ?_;unfold One;refine aA (xG.a7J gh U zV (by rw [cH];omega)) U ?_;refine aj ⟨(Dr CR),?_⟩;refine Tk 14 U (xG.TS (8*(i % 4)) ((256 ^ (i % 4):Nat):Int) U U (a9V (i % 4)) (by rw [<- bZ];omega) (Int.mul_emod_left _ _) (by rw [<- bZ];omega) xE (by have:=hdb.2;omega) xE) ?_;refine Tk 15 U (xG.Fw jT (m:=i / 4) U U xE xE) ?_;refine Ta 16 U ?_;unfold One;refine JL.a4N (v / 4294967296 ^ (i / 4)+xF l (l.length-1-i)*256 ^ (i % 4)) gh U U (by rw [zx a6a,hdd,<- bZ,<- cP]) zW (by rw [cH];omega) ?_;rw [<- hdb.1];refine aj ⟨(Dr CR),?_⟩;refine dJ cq ?_;refine Rg (aA Fc U ?_);refine Ru 1 U (aj (⟨_,?_,_,?_,⟨i+1,v+xF l (l.length-1-i)*256 ^ i,U,U,U,U,⟨by omega,by rw [DW,SM]⟩⟩⟩))
  ·omega
  exact Du
 refine bJ (Kp [3] U (Sr (Ru 1 U ?_)));refine JL.a8c zW (by rw [cH]) (by rw [cH];omega) (λh9 FT hP9=>?_);replace hl:=hl.mono FT;replace AD:=AD.mono FT;have hve:vL (DC ((l.length+3) / 4) v)=DN l:=(by rw [iS,hv,show l.length-i=0 by omega,C3];refine zx (zi (iO l) ?_);rw [show(4294967296:Nat)=256 ^ 4 from rfl,<- CB];exact yf yD xE);refine bS ZT U (mE hP9 (by rw [cH]) xE) U ?_;rintro _ h5 Mh ⟨ra,rc,rfl,hR⟩
 replace hl:=hl.mono Mh
 replace AD:=AD.mono Mh
 refine Ru 1 U (aj ?_);rw [hve] at hR |-;exact bM (aW U U) ⟨_,_,U,hR⟩
def Nd.whole (x:Nd):Bool:=(decide (x.cls=0)&&(decide (x.tag=2)||decide (x.tag=10)))&&x.put.isSome
theorem qc {x:Nd}{cs:LV}(r:B9 h cs x) (hT:D_ h) (CP:x.sz<=1073741824):Pure prog 84 [.agg cs.toArray] h (.bool x.whole):=by
 cases x;exact VB r hT CP
theorem vy {t:Int}(h:t=2\/t=10):form t=1:=by rcases h with rfl|rfl<;>rfl
theorem fl {c t:Int}:(Nd.mk c t k bs ks).whole=true<->c=0/\(t=2\/t=10)/\k=false/\ks=[]/\AY bs=true:=by
 show((decide (c=0)&&(decide (t=2)||decide (t=10)))&&(Nd.mk c t k bs ks).put.isSome)=true<->_;simp only [xB,yu,a_];constructor
 ·rintro⟨⟨rfl,ht⟩,hp⟩;simp only [Nd.put] at hp;split at hp
  ·rename_i zt;have hf:=vy ht;have hr:0<=t/\t<=30:=by omega
   unfold EU B6 at zt;rw [hf,m6 ht] at zt;cases k with
   |true=>simp at zt
   |false =>
    have hn:ks=[]:=by
     cases ks with
     |nil=>rfl
     |cons y r=>simp at zt
    subst hn;simp at zt;exact⟨U,ht,U,U,zt.2⟩
  ·cases hp
 ·rintro⟨rfl,ht,rfl,rfl,hb⟩;refine⟨⟨U,ht⟩,?_⟩;have hf:=vy ht;have hr:0<=t/\t<=30:=by omega
  have zt:EU 0 t false bs []=true:=by
   unfold EU B6;rw [hf,m6 ht,hb];simp [hr]
  simp only [Nd.put];rw [zt];rfl
theorem kG {b:LB}(h:AY b=true):0<b.length:=by
 unfold AY at h;split at h
 ·cases h
 ·omega
theorem Nd.NO (c t:Int) (k:Bool) (bs:LB) (ks:LN):bs.length<=(Nd.mk c t k bs ks).sz:=by simp only [Nd.sz];omega
def Nd.Cu (x:Nd):Bool:=x.whole&&decide (xF x.bytes 0<128)
def Nd.BE (x:Nd):List UInt32:=if x.Cu then CV (DN x.bytes) else []
theorem QW {c t:Int}(h:(Nd.mk c t k bs ks).whole=false\/¬ xF bs 0<128):(Nd.mk c t k bs ks).Cu=false:=by
 show((Nd.mk c t k bs ks).whole&&decide (xF bs 0<128))=false;rcases h with h|h
 ·rw [h];rfl
 ·rw [ah h,yA]
theorem QV {c t:Int}(h:(Nd.mk c t k bs ks).whole=true) (h2:xF bs 0<128):(Nd.mk c t k bs ks).Cu=true:=by
 show((Nd.mk c t k bs ks).whole&&decide (xF bs 0<128))=true;rw [h,ae h2];rfl
theorem XT {x:Nd}{cs:LV}(r:B9 h cs x) (hT:D_ h) (CP:x.sz<=1073741824) :
 F1 prog 172 [.agg cs.toArray] h (λv h'=>∃ a c,v=.tuple #[.slice a x.BE.length c,.bool x.Cu]/\A3 Bf 1 h' a c x.BE):=by
 cases x with
 |mk c t k bs ks =>
 have RG:=Nd.NO c t k bs ks;have Md:(Nd.mk c t k bs ks).whole=true->0<bs.length:=λhw=>kG (fl.1 hw).2.2.2.2;obtain⟨ka,kca,kb,kcb,rfl,hka,hkb⟩:=r.inv;refine aQ func172 U ntmps172 U (λe he=>?_);refine ba [(0,_)] y9 ?_;have AD:=aP h;refine Sr (JL.box U U U (λb1=>?_));refine Ru 2 U (aj (aK (Sr (aA (bK ci U zV Dn) U ?_))));refine cj a4d U (qc zL zL xE) U ?_;refine Ru 2 U (Bs 7 U (λDv=>?_) λDv=>?_)
 ·refine Ru 6 U (Nk [13,3,2,1] U (bP U (Sr (Ru 2 U (aj ?_)))));have RD:=QW (show(Nd.mk c t k bs ks).whole=false\/¬ xF bs 0<128 by first|exact .inl Dv|(right;omega));exact m121
 have Rl:=Md (by simpa using Dv);have e0:=bW bs 0 Rl;have hwz:=Dv;refine Ru 1 U (bz U U  (aG eD U zV U) U ?_);refine JL.FM U U  (aX gH U U (show _=((0:Nat):Int) from rfl) zL U xE) U ?_;rintro _ ⟨b4,o4,hi4,rfl,hE4⟩;refine bz U U  (xG.JW KZ U zL) U ?_;refine Ru 2 U (Nk [13,3,2,1] U (Cs U (λLj=>?_) λLj=>?_))
 ·refine Sr (Ru 2 U (aj ?_));have RD:=QW (show(Nd.mk c t k bs ks).whole=false\/¬ xF bs 0<128 by first|exact .inl Lj|(right;omega));exact m121
 refine aO (Sr (Ru 1 U (aA (aG eD U zV U) U ?_)));refine bS a71 U (wY zL xE) U ?_;rintro _ h7 Nr ⟨a7,c7,rfl,hS7⟩
 replace r:=r.mono Nr
 replace hT:=hT.mono Nr
 replace hka:=hka.mono Nr
 replace AD:=AD.mono Nr
 refine Ru 2 U (Nk [3,2] U ?_);have RD:=QV hwz (show xF bs 0<128 by omega);have hfl:(Nd.mk c t k bs ks).BE=CV (DN bs):=xD RD;rw [RD,hfl];exact bM (B7.two U U U) ⟨_,_,U,by assumption⟩
def s8 (b:Nat):Int:=if b<128 then b else b-256
theorem a0u (b:Nat) (h:b<256):IntKind.i8.wrap (b:Int)=s8 b:=by
 unfold IntKind.wrap s8;simp [IntKind.signed,IntKind.bits];split<;>omega
theorem xG.a9W {f:Fr}{S:AH}{L:LE}{ty src dst:TypeId}{x:Operand}{k:IntKind}{b:UInt8}(hc:Bz f.P src dst=some .i8) (hx:ev S x=some (.int k (b.toNat:Int))):xG f S h L (.convert src dst x) ty (.int .i8 (s8 b.toNat)):=by
 have:=cB (f:=f) (h:=h) (L:=L) (ty:=ty) hc hx;rwa [a0u _ (zA b)] at this
theorem Wy (b:Nat) (h:b<256):-128<=s8 b/\s8 b<=127:=by unfold s8;split<;>omega
def sV (b:LB):Int:=s8 (xF b 0)*256 ^ (b.length-1)+DN (b.drop 1)
theorem a3A {s:Int}{w i:Nat}(hs:-128<=s/\s<=127) (hw:w<256 ^ i):-128*256 ^ i<=s*256 ^ i+w/\s*256 ^ i+w<=128*256 ^ i-1:=by
 have hp:(0:Int)<=256 ^ i:=Int.le_of_lt (G' yD);have h1:-128*(256:Int) ^ i<=s*256 ^ i:=Vo hs.1 hp;have h2:s*(256:Int) ^ i<=127*256 ^ i:=Vo hs.2 hp;have h3:(w:Int)<256 ^ i:=by exact_mod_cast hw
 omega
theorem jM (b:LB) (i:Nat) (h:i<b.length):DN (b.take (i+1))=DN (b.take i)*256+b[i].toNat:=by
 rw [ai h,xw];simp [fe,DN]
theorem QE (i:Nat) (h:i<=6):(256:Int) ^ i<=281474976710656:=by
 exact m130
def Nd.AA (x:Nd):Bool:=x.whole&&decide (x.bytes.length<=8)
def Nd.D7 (x:Nd):Int:=if x.AA then sV x.bytes else 0
theorem jv {c t:Int}:(Nd.mk c t k bs ks).AA=((Nd.mk c t k bs ks).whole&&decide (bs.length<=8)):=rfl
theorem P2 {c t:Int}(h:(Nd.mk c t k bs ks).AA=true):(Nd.mk c t k bs ks).D7=sV bs:=xD h
theorem a68 {c t:Int}(h:(Nd.mk c t k bs ks).AA=false):(Nd.mk c t k bs ks).D7=0:=xC (by rw [h];decide)
theorem Yl {x:Nd}{cs:LV}(r:B9 h cs x) (hT:D_ h) (CP:x.sz<=1073741824) :
 Pure prog 31 [.agg cs.toArray] h (.tuple #[.int .i64 x.D7,.bool x.AA]):=by
 cases x with
 |mk c t k bs ks =>
 have RG:=Nd.NO c t k bs ks;have Md:(Nd.mk c t k bs ks).whole=true->0<bs.length:=λhw=>kG (fl.1 hw).2.2.2.2;obtain⟨ka,kca,kb,kcb,rfl,hka,hkb⟩:=r.inv;refine Pure.ofV ?_;refine aQ func31 U ntmps31 U (λe he=>?_);refine ba [(0,_)] y9 ?_;refine Sr (JL.box U U U (λb1=>?_));refine Ru 2 U (aj (aK (Sr (aA (bK ci U zV Dn) U ?_))));refine cj a4d U (qc zL zL xE) U ?_;refine Ru 2 U ?_;apply On 10 15 5 [3,2,1] U U
 rotate_left
 ·intro Pf Dv;refine Ru 1 U (bz U U  (aG eD U zV U) U ?_);exact Ru 3 U (Ae (a1P Pf U) U)
 rotate_right
 ·exact λPf _=>Ru 5 U (Ae (a1O Pf U) U)
 refine aj (Cs U (λJ'=>?_) λJ'=>?_)
 ·have RD:(Nd.mk c t k bs ks).AA=false:=(by rw [jv];revert J';cases (Nd.mk c t k bs ks).whole<;>simp<;>omega);exact Sr (Ru 2 U (aj (J.Tp (B7.two U U U) (by rw [RD,a68 RD]))))
 obtain⟨hww,hb8⟩:(Nd.mk c t k bs ks).whole=true/\bs.length<=8:=(by revert J';cases (Nd.mk c t k bs ks).whole<;>simp<;>omega);have Rl:=Md hww;have RD:(Nd.mk c t k bs ks).AA=true:=(by rw [jv,hww,ae hb8];rfl);have e0:=bW bs 0 Rl;have GF:=bn bs 0;have hsb:=Wy (xF bs 0) GF;have P_:(bs.drop 1).length=bs.length-1:=aM;refine aO (Sr (Ru 1 U (aA (aG eD U zV U) U ?_)));refine cX (aX gH U U (show _=((0:Nat):Int) from rfl) zL U xE) U ?_;rintro _ ⟨b5,o5,hi5,rfl,hE5⟩;refine aA (xG.JW KZ U zL) U ?_;refine aA (xG.a9W Zq U) U ?_;rw [e0];refine aA (xG.GI Zr U xE xE) U ?_;refine Ru 1 U (Nk [4,3,2,1] U (aK (Sr (Ru 1 U (aA (aG eD U zV U) U ?_)))));refine cX (AB.S9 gH U U (m:=1) U hka U xE) U ?_;rintro _ ⟨a9,c9,rfl,MC⟩;refine Ru 2 U (aj (aV (bU (λt_ S_ h_ L_=>∃ (i:Nat) (w:Int),t_=bs.length-i/\S_=[(4,.int .i64 w),(24,.slice a9 (bs.drop 1).length c9),(25,.int .i64 (bs.drop 1).length),(26,.int .i64 i)]/\h=h_/\L_=[.yY b1 33 [.int .i64 c,.int .i64 t,.bool k,.slice ka bs.length kca,.slice kb ks.length kcb]]/\(i<=(bs.drop 1).length/\w=s8 (xF bs 0)*256 ^ i+DN ((bs.drop 1).take i))) ⟨_,_,?_,⟨0,s8 (xF bs 0),U,U,U,U,⟨by omega,by simp [DN]⟩⟩⟩ ?_)))
 ·exact Du
 rintro _ _ _ _ ⟨i,w,rfl,rfl,rfl,rfl,hi,hw⟩;refine Sr (Ru 1 U (aj (aK (Cs U (λMB=>?_) λMB=>?_))))
 ·have Bx:i<(bs.drop 1).length:=xE;have hbv:=iO ((bs.drop 1).take i);rw [aS,Gp xE] at hbv;have hwb:=a3A hsb hbv;rw [<- hw] at hwb;have hp8:=QE i xE;have hns:=jM (bs.drop 1) i Bx;have hcb:=zA ((bs.drop 1)[i]'Bx);refine aO (aK (aV (Sr (cX (aX gH U U n7 zL U xE) U ?_))));rintro _ ⟨b9,o9,hi9,rfl,hE9⟩;refine aA (xG.JW KZ U zL) U ?_;refine Ru 1 U (aj (Rg (Ru 1 U (aA (by first|exact xG.LP 256 rfl rfl yD yD yD xE xE|exact xG.shl rfl rfl yD yD) U ?_))));refine Ru 1 U (aA (by first|exact xG.Ls Pt rfl|exact xG.GI Pt rfl xE xE|exact cB Pt rfl) U ?_);refine aA (xG.a2o U U xE xE xE xE xE) U ?_;refine Ru 1 U (aj (Rg (aA Fc U ?_)));refine Ru 1 U (aj (⟨_,?_,_,?_,⟨i+1,w*256+((bs.drop 1)[i]'Bx).toNat,U,U,U,U,⟨by omega,by rw [hns,hw,F0,cP,bZ,Int.add_mul,Int.mul_assoc,G3];rfl⟩⟩⟩))
  ·omega
  exact Du
 have YA:i=(bs.drop 1).length:=xE;have hsv:(Nd.mk c t k bs ks).D7=w:=(by rw [P2 RD,hw,YA,xK,sV,P_]);exact bJ (Kp [4] U (Sr (Ru 3 U (aj (J.Tp (B7.two U U U) (by rw [RD,hsv]))))))
def B3 (m n:Nat):Int:=if m<n then -1 else if n<m then 1 else 0
theorem QT {m n:Nat}(h:nd m<nd n):m<n:=by
 have h0:0<n:=by
  rcases B_ n with rfl|h0
  ·rw [a25] at h;omega
  ·exact h0
 have h1:=(OW n h0).1;exact zi (th m) (xJ (yf yD xE) h1)
theorem pL (x j:Nat):x / 4294967296 ^ j=x / 4294967296 ^ (j+1)*4294967296+x / 4294967296 ^ j % 4294967296:=by
 rw [yh,<- zm];omega
theorem js {x y d:Nat}(h:x / d<y / d):x<y:=by
 rcases A9 x y with h1|h1
 ·exact h1
 ·have:=Nat.div_le_div_right (c:=d) h1;omega
section
variable {f:Fr}{S:AH}{h:Part}{L:LE}{ty src dst:TypeId}{x:Operand}{k:IntKind}{p:Int}
theorem xG.toW (t:Nat) (hc:Bz f.P src dst=some .u32) (hx:ev S x=some (.int k p)) (hp:p=(t:Int)):xG f S h L (.convert src dst x) ty (.int .u32 ((t % 4294967296:Nat):Int)):=by
 have:=cB (f:=f) (h:=h) (L:=L) (ty:=ty) hc hx;rwa [hp,IntKind.wrap_u32,show((t:Int) % 4294967296)=((t % 4294967296:Nat):Int) from rfl] at this
end
theorem TN {a b:OA}{ca cb:Nat}{l r:List UInt32}(hl:A3 Bf 1 h a ca l) (hr:A3 Bf 1 h b cb r):Pure prog 244 [.slice a l.length ca,.slice b r.length cb] h (.int .i64 (B3 (vL l) (vL r))):=by
 have GU:=hl.GX;have hrl:=hr.GX;have t1:=gN (d32 l) l.length;have t2:=gN (d32 r) r.length;have e1:=qg l;have e2:=qg r;refine aQ func244 U ntmps244 U (λe he=>?_);refine ba [(0,_),(1,_)] y9 ?_;refine Sr (Ru 1 U (aj (Sr (Ru 1 U (cj vZ U (iy zL) U ?_)))));refine Ru 1 U (cj vZ U (iy zL) U ?_);refine Ru 2 U (aj (aK (Sr (Ru 3 U (Nk [14,6,5,4,0,1] U (Cs U (λDv=>?_) λDv=>?_))))))
 ·refine aK (Sr (Ru 3 U (Nk [17,5,4,0,1] U (Cs U (λJ'=>?_) λJ'=>?_))))
  ·have yJ:=QT (m:=vL l) (n:=vL r) xE;exact m80
  have yJ:=QT (m:=vL r) (n:=vL l) xE;exact m95
 refine aO (aK (Sr (Ru 1 U (aA GP U ?_))));refine Ru 1 U (Nk [7,4,0,1] U (aV (bU (λt_ S_ h_ L_=>∃ (j:Nat),t_=j+1/\S_=[(0,.slice a l.length ca),(1,.slice b r.length cb),(7,.int .i64 ((j:Int)-1))]/\h=h_/\L_=[]/\(j<=Ey (d32 l) l.length/\vL l / 4294967296 ^ j=vL r / 4294967296 ^ j)) ⟨_,_,?_,⟨Ey (d32 l) l.length,U,U,U,U,⟨aB _,by rw [e1,BP (th _),show nd (vL l)=nd (vL r) by omega,BP (th _)]⟩⟩⟩ ?_)))
 ·exact IE
 rintro _ _ _ _ ⟨j,rfl,rfl,rfl,rfl,hj,he⟩;refine aK (Sr (Ru 2 U (aj (Cs U (λPa=>?_) λPa=>?_))))
 ·obtain⟨i,rfl⟩:∃ i,j=i+1:=⟨j-1,by omega⟩;have dl:=pL (vL l) i;have dr:=pL (vL r) i;rw [fC] at dl dr;rw [he] at dl;have al:=mS l i xE;have ar:=mS r i xE;refine aO (aK (aV (aK (J.drawn dY cq ?_))));refine Rq 2 U ?_;refine JQ.TB (aX (m:=i) jT U U xE hl U xE) U ?_;rintro _ ⟨b6,o6,hi6,rfl,hE6⟩;refine JQ.op (dt gh U zL) U ?_;refine Rq 2 U ?_;refine JQ.TB (aX (m:=i) jT U U xE hr U xE) U ?_;rintro _ ⟨b8,o8,hi8,rfl,hE8⟩;refine JQ.op (dt gh U zL) U ?_;refine Rq 1 U ?_;refine JQ.nil ?_;refine Cs U (λIq=>?_) λIq=>?_
  ·refine aK (aK (J.drawn dY cq ?_));refine Rq 2 U ?_;refine JQ.TB (aX (m:=i) jT U U xE hl U xE) U ?_;rintro _ ⟨b11,o11,a6j,rfl,a6u⟩;refine JQ.op (dt gh U zL) U ?_;refine Rq 2 U ?_;refine JQ.TB (aX (m:=i) jT U U xE hr U xE) U ?_;rintro _ ⟨b13,o13,b0S,rfl,b1h⟩;refine JQ.op (dt gh U zL) U ?_;refine Rq 1 U ?_;refine JQ.nil ?_;refine Cs U (λU8=>?_) λU8=>?_
   ·have yJ:=js (x:=vL l) (y:=vL r) (d:=4294967296 ^ i) xE;exact m80
   have yJ:=js (x:=vL r) (y:=vL l) (d:=4294967296 ^ i) xE;exact m95
  exact m110
 exact m104
theorem XU {n:Nat}(hn:n<18446744073709551616):F1 prog 312 [.int .u64 n] h (λv h'=>∃ a c,v=.slice a (CV n).length c/\A3 Bf 1 h' a c (CV n)):=by
 refine aQ func312 U ntmps312 U (λe he=>?_);refine ba [(0,_)] y9 ?_;have AD:=aP h;refine Sr (Ru 1 U (aj (Sr (Ru 1 U (aA (xG.toW n g_ U U) U ?_)))));refine Ru 1 U (aA (xG.J3 4294967296 U U yD yD yD) U ?_);refine aA (xG.toW (n / 4294967296) g_ U U) U ?_;refine du SF Vt U U U U U (λb1=>?_);refine JL.LY (R:=Bf) (sz:=1) (l:=DC 2 n) zW ((show yl Bf 1 _ [.int .u32 ((n % 4294967296:Nat):Int),.int .u32 ((n / 4294967296 % 4294967296:Nat):Int)] (DC 2 n) from(show ws .u32 (DC 2 n)=[.int .u32 ((n % 4294967296:Nat):Int),.int .u32 ((n / 4294967296 % 4294967296:Nat):Int)] from by simp [ws,DC]) ▸ yl.QL)) (by first|decide|omega|(rw [cH];decide)|(simp;done)|(simp [cH];done)) (λh2 zH hQ=>?_)
 replace AD:=AD.mono zH
 refine bS ZT U (mE hQ (by rw [cH]) xE) U ?_;rintro _ h3 FU ⟨ra,rc,rfl,hR⟩
 replace AD:=AD.mono FU
 replace hQ:=hQ.mono FU
 refine Ru 1 U (Nk [2] U ?_);have hv:vL (DC 2 n)=n:=(by rw [iS];exact zx (by simp only [Nat.reducePow];omega));rw [hv] at hR |-;exact bM (aW U U) ⟨_,_,U,hR⟩
def dr (X Y:Nat):Nat:=if Y=0 then 0 else X % Y
theorem kX (l:List UInt32):bl (vL l)<=32*l.length:=by
 have:=MM l;rw [qO] at this;exact n9 _ _ this
theorem a6Z:yH prog 270=true:=by kernel_rfl
theorem sY {c n:Nat}(hl:A3 C8 1 h a c (l.map m64)) (hn:n=l.length) (hlen:l.length<=1000000):F1 prog 270 [.slice a n c] h (λv h'=>∃ a' c',v=.slice a' (CV (vL l)).length c'/\A3 Bf 1 h' a' c' (CV (vL l))):=by
 have FH:(l.map m64).length=l.length:=aq ..;have:=TH hl (λi=>by rw [mR];exact lm l i) xE;rw [FH,<- hn,vQ,a2b] at this;exact this
def pw (i:Nat):Nat:=if i=0 then 1 else 256 ^ ((i-1) % 4+1)
theorem a2N (l:List UInt32):Hg l=(CV (vL l)).map m64:=vQ l
theorem uH {c:Nat}(hl:A3 Bf 1 h a c l) (hlen:l.length<=1000000):F1 prog 214 [.slice a l.length c] h (λv h'=>∃ a' c',v=.slice a' (CV (vL l)).length c'/\A3 C8 1 h' a' c' ((CV (vL l)).map m64)):=by
 have:=j_ hl hlen;rw [a2N,aq] at this;exact this
theorem S7 (l:List UInt32) (i:Nat) (h:i<(l.map m64).length):(((l.map m64)[i]'h).toNat:Int)=d32 l i:=by rw [rF,mR]
theorem a5l {n:Nat}(hn:n<18446744073709551616):F1 prog 278 [.int .u64 n] h (λv h'=>∃ a c,v=.slice a (CV n).length c/\A3 Bf 1 h' a c (CV n)):=by
 have hv:vL (DC 2 n)=n:=by rw [iS];exact zx (by simp only [Nat.reducePow];omega)
 refine aQ func278 U ntmps278 U (λe he=>?_);refine ba [(0,_)] y9 ?_;have AD:=aP h;refine Sr (Ru 1 U (aj (Sr (Ru 1 U (aA (by first|exact xG.HO rfl rfl xE xE|exact xG.rem rfl rfl xE) U ?_)))));refine Ru 1 U (aA (by first|exact xG.ET rfl rfl xE xE xE|exact xG.quo rfl rfl xE) U ?_);refine du iP n_ U U U U U (λb1=>?_);refine JL.LY (R:=C8) (sz:=1) (l:=(DC 2 n).map m64) zW ((show yl C8 1 _ [.int .u64 ((n:Int) % 4294967296),.int .u64 ((n:Int) / 4294967296)] ((DC 2 n).map m64) from(show ws .u64 (DC 2 n)=[.int .u64 ((n:Int) % 4294967296),.int .u64 ((n:Int) / 4294967296)] from by simp [ws,DC];omega) ▸ yl.a1T)) (by first|decide|omega|(rw [cH];decide)|(simp;done)|(simp [cH];done)) (λh2 zH hQ=>?_)
 replace AD:=AD.mono zH
 refine bS a6Z U (sY hQ (by rw [cH]) (by rw [cH];decide)) U ?_;rintro _ h3 FU ⟨ra,rc,rfl,hR⟩
 replace AD:=AD.mono FU
 replace hQ:=hQ.mono FU
 refine Ru 1 U (Nk [2] U ?_);rw [hv] at hR |-;exact bM (aW U U) ⟨_,_,U,hR⟩
theorem a78:yH prog 213=true:=by kernel_rfl
theorem sH {a b:OA}{ca cb X Y:Nat}(hA:A3 C8 1 h a ca ((CV X).map m64)) (hB:A3 C8 1 h b cb ((CV Y).map m64)) (hlA:(CV X).length<=1000000):Pure prog 213 [.slice a (CV X).length ca,.slice b (CV Y).length cb] h (.int .i64 (B3 X Y)):=by
 have hAl:((CV X).map m64).length=(CV X).length:=aq ..;have hBl:((CV Y).map m64).length=(CV Y).length:=aq ..;have e1:=jQ X;have e2:=jQ Y;refine aQ func213 U ntmps213 U (λe he=>?_);refine ba [(0,_),(1,_)] y9 ?_;refine Sr (Ru 1 U (aj (aK (Sr (Ru 5 U (aj (Cs U (λBy=>?_) λBy=>?_)))))))
 ·refine aK (Sr (Ru 5 U (Nk [15,4,0,1] U (Cs U (λBO=>?_) λBO=>?_))))
  ·have yJ:=QT (m:=X) (n:=Y) xE;exact m80
  have yJ:=QT (m:=Y) (n:=X) xE;exact m95
 refine aO (Kp [4,0,1] U (aK (Sr (Ru 2 U (aA GP U ?_)))));refine Ru 1 U (aj (aV (bU (λt_ S_ h_ L_=>∃ (j:Nat),t_=j+1/\S_=[(0,.slice a (CV X).length ca),(1,.slice b (CV Y).length cb),(5,.int .i64 ((j:Int)-1))]/\h=h_/\L_=[]/\(j<=(CV X).length/\X / 4294967296 ^ j=Y / 4294967296 ^ j)) ⟨_,_,?_,⟨(CV X).length,U,U,U,U,⟨aB _,by rw [e1,BP (th _),show nd X=nd Y by omega,BP (th _)]⟩⟩⟩ ?_)))
 ·exact IE
 rintro _ _ _ _ ⟨j,rfl,rfl,rfl,rfl,hj,he⟩;refine aK (Sr (Ru 2 U (aj (Cs U (λDv=>?_) λDv=>?_))))
 ·obtain⟨i,rfl⟩:∃ i,j=i+1:=⟨j-1,by omega⟩;have dl:=pL X i;have dr:=pL Y i;have gl:=fC (CV X) i;have gr:=fC (CV Y) i;rw [gL] at gl gr;rw [gl] at dl;rw [gr] at dr;rw [he] at dl;have al:=S7 (CV X) i xE;have ar:=S7 (CV Y) i xE;refine aO (aK (aV (aK (aK (J.drawn dY cq ?_)))));refine Rq 2 U ?_;refine JQ.TB (aX (m:=i) dk U U xE hA hAl.symm xE) U ?_;rintro _ ⟨b4,o4,hi4,rfl,hE4⟩;refine JQ.op (bG e_ U zL) U ?_;rw [al];refine Rq 2 U ?_;refine JQ.TB (aX (m:=i) dk U U xE hB hBl.symm xE) U ?_;rintro _ ⟨b6,o6,hi6,rfl,hE6⟩;refine JQ.op (bG e_ U zL) U ?_;rw [ar];refine Rq 1 U ?_;refine JQ.nil ?_;refine Cs U (λMB=>?_) λMB=>?_
  ·have yJ:=js (x:=X) (y:=Y) (d:=4294967296 ^ i) xE;exact m80
  refine aO (aK (J.drawn dY cq ?_));refine Rq 2 U ?_;refine JQ.TB (aX (m:=i) dk U U xE hA hAl.symm xE) U ?_;rintro _ ⟨b9,o9,hi9,rfl,hE9⟩;refine JQ.op (bG e_ U zL) U ?_;rw [al];refine Rq 2 U ?_;refine JQ.TB (aX (m:=i) dk U U xE hB hBl.symm xE) U ?_;rintro _ ⟨b11,o11,a6j,rfl,a6u⟩;refine JQ.op (bG e_ U zL) U ?_;rw [ar];refine Rq 1 U ?_;refine JQ.nil ?_;refine Cs U (λPc=>?_) λPc=>?_
  ·have yJ:=js (x:=Y) (y:=X) (d:=4294967296 ^ i) xE;exact Sr (Ru 1 U (aj (cn (aW U U) (by unfold B3;rw [xC xE,xD yJ]) U)))
  exact m110
 exact m104
theorem a1t {a b:OA}{ca cb:Nat}{l r:List UInt32}(hl:A3 Bf 1 h a ca l) (hr:A3 Bf 1 h b cb r) (Mi:l.length<=1000000) (hrb:r.length<=1000000):F1 prog 112 [.slice a l.length ca,.slice b r.length cb] h (λv _=>v=.int .i64 (B3 (vL l) (vL r))):=by
 have n1:(CV (vL l)).length<=l.length:=by rw [jQ];exact a3M _ _ (MM l)
 refine aQ func112 U ntmps112 U (λe he=>?_);refine ba [(0,_),(1,_)] y9 ?_;have AD:=aP h;refine Sr (Ru 1 U (aj (Sr (Ru 1 U (bS w7 U (uH hl Mi) U ?_)))));rintro _ h1 Gd ⟨da,dc,rfl,hD⟩
 replace hl:=hl.mono Gd
 replace hr:=hr.mono Gd
 replace AD:=AD.mono Gd
 refine Ru 1 U (bS w7 U (uH hr hrb) U ?_);rintro _ h2 zH ⟨ea,ec,rfl,hE⟩
 replace hl:=hl.mono zH
 replace hr:=hr.mono zH
 replace AD:=AD.mono zH
 replace hD:=hD.mono zH
 refine cj a78 U (sH hD hE xE) U ?_;exact Ru 1 U (Nk [4] U (bM (aW U U) U))
theorem tJ (l:List UInt32):d32 l 0 % 2=vL l % 2:=by
 have:=fC l 0;rw [GY,G8] at this;omega
theorem oW (h:¬ 0<l.length):vL l % 2=0:=by
 rw [<- tJ,S8 l 0 xE]
theorem a5R {c:Nat}(hl:A3 Bf 1 h a c l):Pure prog 311 [.slice a l.length c] h (.bool (decide (vL l % 2=1))):=by
 have hb:=hl.GX;have hp:=tJ l;have hd:=lm l 0;refine aQ func311 U ntmps311 U (λe he=>?_);refine ba [(0,_)] y9 ?_;refine Sr (Ru 1 U (aj (Sr (Ru 4 U (Bs 6 U (λBy=>?_) λBy=>?_)))))
 ·refine Ru 1 U (JL.FM U U  (aX (m:=0) jT U U U hl U xE) U ?_);rintro _ ⟨b2,o2,J8,rfl,hE2⟩;refine bz U U  (dt gh U zL) U ?_;rw [mS];refine bz U U  (xG.Y0 1 2 U U yD yD yD xE xE) U ?_;exact Ru 3 U (Nk [2] U (cn (aW U U) (congrArg Value.bool (by first|exact y7.2 xE|exact(ah (by have:=oW (l:=l) xE;omega)).symm)) U))
 exact m100
theorem a1g {c:Nat}(hl:A3 Bf 1 h a c l):Pure prog 277 [.slice a l.length c] h (.bool (decide (vL l % 2=1))):=by
 have hb:=hl.GX;have hp:=tJ l;have hd:=lm l 0;refine aQ func277 U ntmps277 U (λe he=>?_);refine ba [(0,_)] y9 ?_;refine Sr (Ru 1 U (aj (Sr (Ru 4 U (Bs 6 U (λBy=>?_) λBy=>?_)))))
 ·refine Ru 1 U (JL.FM U U  (aX (m:=0) jT U U U hl U xE) U ?_);rintro _ ⟨b2,o2,J8,rfl,hE2⟩;refine bz U U  (dt gh U zL) U ?_;rw [mS];refine bz U U  (by first|exact xG.a1n rfl rfl xE xE|exact xG.rem rfl rfl xE) U ?_;exact Ru 3 U (Nk [2] U (cn (aW U U) (congrArg Value.bool (by first|exact y7.2 xE|exact(ah (by have:=oW (l:=l) xE;omega)).symm)) U))
 exact m100
def GA (n e d:Nat):Bool:=decide (n % 2=1/\512<=bl n/\bl n<=4096/\e % 2=1/\2<e/\bl e<=64/\d<n)
theorem jH (a b:Nat):(0<B3 a b<->b<a)/\(B3 a b<0<->a<b)/\(B3 a b=1<->b<a)/\(B3 a b=-1<->a<b)/\(B3 a b=0<->a=b):=by
 unfold B3;split
 ·omega
 ·split<;>omega
def Iw (n k:Nat):List UInt32:=(List.replicate (n / 32) 4294967295++(if 0<n % 32 then [UInt32.ofNat (2 ^ (n % 32)-1)] else [])).set 0 (UInt32.ofNat (4294967296-k))
def Xd:Nat->List UInt32
 |0=>Iw 256 189
 |1=>Iw 255 19
 |2=>Iw 256 357
 |3=>Iw 255 31
 |4=>Iw 257 93
 |_=>Iw 521 1
def b1n:Nat->List UInt32
 |0=>[0xb9c9afc1,0xb9c94636,0xb9c94636,0xb9c94636,0xb9c94636,0xb9c94636,0xb9c94636,0xb9c94636,0x65af9976,0x65af9a50,0x65af9a50,0x65af9a50,0x65af9a50,0x65af9a50,0x65af9a50,0x65af9a50]
 |1=>[0xa813656d,0xa81357ec,0xa81357ec,0xa81357ec,0xa81357ec,0xa81357ec,0xa81357ec,0xa81357ec,0x63159c8e,0x63159cea,0x63159cea,0x63159cea,0x63159cea,0x63159cea,0x63159cea,0x63159cea]
 |2=>[0x197912ed,0x1978e687,0x1978e687,0x1978e687,0x1978e687,0x1978e687,0x1978e687,0x1978e687,0xaced5201,0xaced5312,0xaced5312,0xaced5312,0xaced5312,0xaced5312,0xaced5312,0xaced5312]
 |3=>[0xc45a3f41,0xc45a3ba5,0xc45a3ba5,0xc45a3ba5,0xc45a3ba5,0xc45a3ba5,0xc45a3ba5,0xc45a3ba5,0x7db7821d,0x7db78248,0x7db78248,0x7db78248,0x7db78248,0x7db78248,0x7db78248,0x7db78248]
 |4=>[0x4623bbc1,0x4623b9dc,0x4623b9dc,0x4623b9dc,0x4623b9dc,0x4623b9dc,0x4623b9dc,0x4623b9dc,0x2940d6ad,0x2940d6bf,0x2940d6bf,0x2940d6bf,0x2940d6bf,0x2940d6bf,0x2940d6bf,0x2940d6bf]
 |5=>[0xa87558e9,0xa875578a,0xa875578a,0xa875578a,0xa875578a,0xa875578a,0xa875578a,0xa875578a,0x807f7f7e,0x807f7f80,0x807f7f80,0x807f7f80,0x807f7f80,0x807f7f80,0x807f7f80,0x807f7f80,0xa269780,0xa27f5d8,0xa27f5d8,0xa27f5d8,0xa27f5d8,0xa27f5d8,0xa27f5d8,0xa27f5d8,0x1d8]
 |6=>[0xa4b65c7d,0xa4b65b49,0xa4b65b49,0xa4b65b49,0xa4b65b49,0xa4b65b49,0xa4b65b49,0xa4b65b49,0x807f7f7f,0x807f7f80,0x807f7f80,0x807f7f80,0x807f7f80,0x807f7f80,0x807f7f80,0x807f7f80,0xc9230380,0xc92436db,0xc92436db,0xc92436db,0xc92436db,0xc92436db,0xc92436db,0xc92436db,0xdb]
 |7=>[0xb84e47d1,0xb84e47b1,0xb84e47b1,0xb84e47b1,0xb84e47b1,0xb84e47b1,0xb84e47b1,0xb84e47b1,0x807f7f7f,0x807f7f80,0x807f7f80,0x807f7f80,0x807f7f80,0x807f7f80,0x807f7f80,0x807f7f80,0x3137af80,0x3137cec8,0x3137cec8,0x3137cec8,0x3137cec8,0x3137cec8,0x3137cec8,0x3137cec8,0xc8]
 |8=>[0xf86107c1,0xf861079e,0xf861079e,0xf861079e,0xf861079e,0xf861079e,0xf861079e,0xf861079e,0x807f7f7f,0x807f7f80,0x807f7f80,0x807f7f80,0x807f7f80,0x807f7f80,0x807f7f80,0x807f7f80,0x1e77bf80,0x1e77e188,0x1e77e188,0x1e77e188,0x1e77e188,0x1e77e188,0x1e77e188,0x1e77e188,0x88]
 |9=>[0x72988d99,0x72988d67,0x72988d67,0x72988d67,0x72988d67,0x72988d67,0x72988d67,0x72988d67,0x807f7f7f,0x807f7f80,0x807f7f80,0x807f7f80,0x807f7f80,0x807f7f80,0x807f7f80,0x807f7f80,0xe6f1e780,0xe6f2190d,0xe6f2190d,0xe6f2190d,0xe6f2190d,0xe6f2190d,0xe6f2190d,0xe6f2190d,0x10d]
 |10=>[0x956b39cd,0x956a956a,0x956a956a,0x956a956a,0x956a956a,0x956a956a,0x956a956a,0x956a956a,0x9e619d0e,0x9e619e61,0x9e619e61,0x9e619e61,0x9e619e61,0x9e619e61,0x9e619e61,0x9e619e61]
 |11=>[0x11ee43e1,0x11ee11ee,0x11ee11ee,0x11ee11ee,0x11ee11ee,0x11ee11ee,0x11ee11ee,0x11ee11ee,0x6e916d3e,0x6e916e91,0x6e916e91,0x6e916e91,0x6e916e91,0x6e916e91,0x6e916e91,0x6e916e91,0x1]
 |_=>[]
def a3G:DI (Int×Int):=λ_ cs p=>cs=[.int .i64 p.1,.int .i64 p.2]
instance:CF a3G:=⟨λ_ r=>r,λr u hu=>by unfold a3G at r;subst r;simp only [zE,Vn,or_false] at hu;rcases hu with rfl|rfl<;>rfl⟩
def Xn:List (Int×Int):=[(0,2),(0,4),(2,4),(4,1),(4,3),(0,5),(2,5),(1,5),(3,5),(4,5),(0,2),(0,4)]
def b0p (i:Nat):Nat:=vL (Xd (a0e (Xn.getD i (0,0)).1 6).toNat)*vL (Xd (a0e (Xn.getD i (0,0)).2 6).toNat)
def b0q (i:Nat):Nat:=if 10<=i then 257 else 65537
theorem UH {a b:OA}{ca cb:Nat}{l r:LB}(hl:A3 DJ 1 h a ca l) (hr:A3 DJ 1 h b cb r):Pure prog 33 [.slice a l.length ca,.slice b r.length cb] h (.bool (decide (l=r))):=by
 refine aQ func33 U ntmps33 U (λe he=>?_);refine ba [(0,_),(1,_)] y9 ?_;refine Sr (Ru 1 U (aj (Sr (Ru 1 U (aA (xG.MT (l:=l) Qd U hl U) U ?_)))));refine Ru 1 U (aA (xG.MT (l:=r) Qd U hr U) U ?_);refine aA (xG.a6B U U) U ?_;exact Ru 1 U (Nk [4] U (cn (aW U U) U U))
theorem wv:AF prog 324=some (some 8):=by kernel_rfl
theorem a7t:arT prog 326=some (8,1):=by kernel_rfl
theorem PH:arZ prog 324=some ([.int .u64 0,.int .u64 0,.int .u64 0,.int .u64 0,.int .u64 0,.int .u64 0,.int .u64 0,.int .u64 0],1):=by kernel_rfl
theorem ZW:yH prog 249=true:=by kernel_rfl
theorem a5T:niT prog 325=true:=by kernel_rfl
theorem XO:niT prog 329=true:=by kernel_rfl
theorem a5t:OO prog 328=some ([.int .u32 0,.int .u32 0,.int .u32 0,.int .u32 0,.int .u32 0,.int .u32 0,.int .u32 0,.int .u32 0],[(0,8)]):=by kernel_rfl
theorem Xh:OO prog 331=some ([.int .u64 0,.int .u64 0,.int .u64 0,.int .u64 0,.int .u64 0,.int .u64 0,.int .u64 0,.int .u64 0],[(0,8)]):=by kernel_rfl
theorem Vs:CH prog 324=some [.int .u64 0,.int .u64 0,.int .u64 0,.int .u64 0,.int .u64 0,.int .u64 0,.int .u64 0,.int .u64 0]:=by kernel_rfl
section
variable {f:Fr}{S:AH}{h:Part}{L:LE}{ty T yt:TypeId}{xo yo:Operand}
theorem xG.NI (hT:ifT f.P T=true) (hx:ev S xo=some .nilIface):xG f S h L (.binOp .eql T xo (.const .nilIface) yt) ty (.bool true):=bO (y:=.const .nilIface) hx U λw=>by
 exact m50
theorem xG.KW {t:TypeId}{v:Value}(hT:ifT f.P T=true) (hx:ev S xo=some (.iface t v)):xG f S h L (.binOp .eql T xo (.const .nilIface) yt) ty (.bool false):=bO (y:=.const .nilIface) hx U λw=>by
 exact m49
def arE (P:Program) (T:Nat):Option (Nat×Bool) :=
 match P.underlying T with
 |some (.array n e)=>some (n,AF P e == some none)
 |_=>none
theorem xG.Yq {len m:Nat}{k:IntKind}{i:Int}{cs:LV}{v:Value}(hT:arE f.P T=some (len,true)) (hx:ev S xo=some (.agg cs.toArray)) (hy:ev S yo=some (.int k i)) (hi:i=(m:Int)) (h1:m<len) (hv:cs[m]?=some v) :
 xG f S h L (.index T xo yo) ty v:=λa w s _ _ _ _=>by
 subst hi;have h0:(0:Int)<=m:=by omega
 unfold arE at hT;split at hT<;>try cases hT
 rename_i n e hu;simp only [au,zu,beq_iff_eq] at hT;obtain⟨rfl,he⟩:=hT;have ⟨e1,e2⟩:=eP he w;simp [execOp,s.eval hx,s.eval hy,Instr.index,asIntOf,run_underlying hu,h0,h1,e2,part,e1,hv]
end
def c64 (l:List UInt64):LV:=l.map λx=>.int .u64 (x.toNat:Int)
theorem a00 (l:List UInt64) (i:Nat) (h:i<l.length):(c64 l)[i]?=some (.int .u64 ((l[i]'h).toNat:Int)):=by simp [c64,h]
def sqL:List UInt64:=[7640891576956012808,13503953896175478587,4354685564936845355,11912009170470909681,5840696475078001361,11170449401992604703,2270897969802886507,6620516959819538809]
def AN (n:Int):Prop:=n=256\/n=384\/n=512
instance (n:Int):Decidable (AN n):=inferInstanceAs (Decidable (_\/_\/_))
theorem xd {n:Int}(hn:¬ AN n):F1 prog 249 [.int .i64 n] h (λv _=>v=.nilIface):=by
 unfold AN at hn;refine aQ func249 U ntmps249 U (λe he=>?_);refine ba [(0,_)] y9 ?_;have AD:=aP h;refine Sr (Ru 1 U (aj (Sr (aA (xG.I2 PH U U U) U ?_))));refine bp Vs U (λb1=>?_);refine aZ wv U U zW eE (by first|rfl|assumption) eE ?_;refine aj ?_;refine aK (Sr (Ru 1 U (aj (aV (Sr (Ru 2 U (aj (Cs U (λBO=>?_) λBO=>?_))))))))
 ·exfalso;omega
 refine Sr (Ru 2 U (Nk [29,8,3,2] U (Cs U (λDv=>?_) λDv=>?_)))
 ·exfalso;omega
 refine Sr (Ru 2 U (aj (Cs U (λJ'=>?_) λJ'=>?_)))
 ·exfalso;omega
 exact aO (Kp [2] U (Sr (Ru 1 U (aj (bM (aW U U) U)))))
theorem xb {n:Int}(hn:AN n):F1 prog 249 [.int .i64 n] h (λv _=>∃ t u,v=.iface t u):=by
 unfold AN at hn;have O3:sqL.length=8:=rfl;refine aQ func249 U ntmps249 U (λe he=>?_);refine ba [(0,_)] y9 ?_;have AD:=aP h;refine Sr (Ru 1 U (aj (Sr (aA (xG.I2 PH U U U) U ?_))));refine bp Vs U (λb1=>?_);refine aZ wv U U zW eE (by first|rfl|assumption) eE ?_;refine aj ?_;refine aK (Sr (Ru 1 U (aj (aV (Sr (Ru 2 U (aj (Cs U (λBO=>?_) λBO=>?_))))))))
 ·refine Sr (aA (bi (cs:=[.int .u32 0,.int .u32 0,.int .u32 0,.int .u32 0,.int .u32 0,.int .u32 0,.int .u32 0,.int .u32 0]) a5t U U) U ?_);refine JL.box U U U (λb3=>?_);refine Ru 1 U (Nk [4,3,2] U (aK (Sr (aA (bK wv U zV eE) U ?_))));refine Ru 1 U (aj (aV (bU (λt_ S_ h_ L_=>∃ (i:Nat) (cs:LV),t_=8-i/\S_=[(4,.pointer (some ⟨b3,0,none⟩)),(13,.agg (c64 sqL).toArray),(14,.int .i64 i)]/\h=h_/\L_=[.yY b3 328 cs,.yY b1 324 (c64 sqL)]/\(i<=8/\cs.length=8)) ⟨_,_,?_,⟨0,[.int .u32 0,.int .u32 0,.int .u32 0,.int .u32 0,.int .u32 0,.int .u32 0,.int .u32 0,.int .u32 0],U,U,U,U,⟨by omega,U⟩⟩⟩ ?_)))
  ·exact IE
  rintro _ _ _ _ ⟨i,cs,rfl,rfl,rfl,rfl,hi,Ia⟩;refine Sr (Ru 1 U (aj (aK (Cs U (λJ'=>?_) λJ'=>?_))))
  ·have Bx:i<8:=xE;have b0z:=(sqL[i]'xE).toNat_lt;refine aO (aK (aV (Sr (Ru 1 U (aA (xG.Yq (len:=8) (m:=i) cq U U U Bx (a00 sqL i xE)) U ?_)))));refine Ru 2 U (aj (Rg (Ru 3 U (aA (xG.J3 4294967296 U U yD yD yD) U ?_))));refine aA (xG.toW ((sqL[i]'xE).toNat / 4294967296) g_ U (by rw [Int.natCast_ediv];rfl)) U ?_;refine Ru 2 U (aA (xG.Nn a7t U U n7 xE) U ?_);refine bj gh U U U zW iR ?_;refine aj (Rg (aA Fc U ?_));refine Ru 1 U (aj (⟨_,?_,_,?_,⟨i+1,_,U,U,U,U,⟨by omega,by rw [Gq];exact Ia⟩⟩⟩))
   ·omega
   exact IE
  refine bJ (Sr (Ru 1 U (aA (de a5T U) U ?_)));exact Ru 1 U (Nk [2] U (bM (aW U U) ⟨_,_,U⟩))
 refine Sr (Ru 2 U (Nk [29,8,3,2] U (Cs U (λPa=>?_) λPa=>?_)))
 ·refine Sr (aA (xG.I2 PH U U U) U ?_);refine aA (bi (cs:=[_,_,_,_,_,_,_,_]) Xh U U) U ?_;refine JL.box U U U (λb6=>?_);exact m193
 refine Sr (Ru 2 U (aj (Cs U (λP'=>?_) λP'=>?_)))
 ·refine Sr (aA (bK wv U zV eE) U ?_);refine aA (bi (cs:=[_,_,_,_,_,_,_,_]) Xh U U) U ?_;refine JL.box U U U (λb8=>?_);exact m193
 refine aO (Kp [2] U (Sr (Ru 1 U (aj ?_))));exfalso;omega
def A6 (n:Int):Int:=if AN n then n / 8 else 0
theorem wG {n:Int}:F1 prog 156 [.int .i64 n] h (λv _=>v=.int .i64 (A6 n)):=by
 by_cases hn:AN n
 ·have hs:A6 n=n / 8:=xD hn;rw [hs];have hn2:=hn;unfold AN at hn2;refine aQ func156 U ntmps156 U (λe he=>?_);refine ba [(0,_)] y9 ?_;have AD:=aP h;refine Sr (Ru 1 U (aj (aK (Sr (Ru 1 U (bS ZW U (xb hn) U ?_))))));rintro _ h1 Gd ⟨t,u,rfl⟩
  replace AD:=AD.mono Gd
  refine aA (xG.KW cq U) U ?_;refine aj (J.Df U ?_);refine aO (Sr (Ru 1 U (aA LF U ?_)));exact Ru 1 U (Nk [2] U (bM (aW U U) U))
 ·have hs:A6 n=0:=xC hn;rw [hs];refine aQ func156 U ntmps156 U (λe he=>?_);refine ba [(0,_)] y9 ?_;have AD:=aP h;refine Sr (Ru 1 U (aj (aK (Sr (Ru 1 U (bS ZW U (xd hn) U ?_))))));rintro _ h1 Gd rfl
  replace AD:=AD.mono Gd
  refine aA (xG.NI cq U) U ?_;exact aj (bP U (Sr (Ru 1 U (aj (bM (aW U U) U)))))
theorem dv:AF prog 301=some (some 8):=by kernel_rfl
theorem lu:Mq prog 299=some (137,1,8):=by kernel_rfl
theorem a6Y:yH prog 279=true:=by kernel_rfl
theorem ZR:yH prog 328=true:=by kernel_rfl
theorem iA:CM prog 301 2=some 2:=by kernel_rfl
theorem Xi:OO prog 301=some ([.int .u64 0,.int .i64 0,.slice none 0 0,.slice none 0 0,.slice none 0 0,.slice none 0 0,.slice none 0 0,.int .i64 0],[(0,1),(1,1),(2,1),(3,1),(4,1),(5,1),(6,1),(7,1)]):=by kernel_rfl
theorem l_:CH prog 137=some [.int .u64 0]:=by kernel_rfl
theorem tX:CH prog 301=some [.int .u64 0,.int .i64 0,.slice none 0 0,.slice none 0 0,.slice none 0 0,.slice none 0 0,.slice none 0 0,.int .i64 0]:=by kernel_rfl
def FI (n:Int):Int:=if n=256 then 32 else if n=384 then 48 else if n=512 then 64 else 0
theorem a0w (n:Int):FI n=A6 n:=by
 by_cases h1:n=256
 ·subst h1;rfl
 ·by_cases h2:n=384
  ·subst h2;rfl
  ·by_cases h3:n=512
   ·subst h3;rfl
   ·have h4:¬ AN n:=(by unfold AN;omega);show(if n=256 then 32 else if n=384 then 48 else if n=512 then 64 else 0:Int)=A6 n;rw [xC h1,xC h2,xC h3,show A6 n=0 from xC h4]
def IS:List UInt64:=[0x6a09e667f3bcc908,0xbb67ae8584caa73b,0x3c6ef372fe94f82b,0xa54ff53a5f1d36f1,0x510e527fade682d1,0x9b05688c2b3e6c1f,0x1f83d9abfb41bd6b,0x5be0cd19137e2179,0xcbbb9d5dc1059ed8,0x629a292a367cd507,0x9159015a3070dd17,0x152fecd8f70e5939,0x67332667ffc00b31,0x8eb44a8768581511,0xdb0c2e0d64f98fa7,0x47b5481dbefa4fa4]
theorem tO {xs:LV}{l:List UInt64}(e:c64 l=xs):yl C8 1 h xs l:=by
 subst e;refine⟨by simp [c64],λi x hx=>?_⟩;obtain⟨hi,rfl⟩:=xS.1 hx;unfold C8;rw [DP,NV,Kl,a00 l i hi];rfl
theorem ng :F1 prog 328 [] h (λv h'=>∃ a c,v=.slice a IS.length c/\A3 C8 1 h' a c IS):=by
 refine aQ func328 U ntmps328 U (λe he=>?_);have AD:=aP h;refine Sr (Ru 1 U (aj (Sr (du iP n_ U U U U U (λb1=>?_)))));refine JL.LY (R:=C8) (sz:=1) (l:=IS) zW ((tO cq)) (by first|decide|omega|(rw [cH];decide)|(simp;done)|(simp [cH];done)) (λh2 zH hQ=>?_)
 replace AD:=AD.mono zH
 exact Ru 1 U (aj (bM (aW U U) ⟨_,_,U,hQ⟩))
theorem SX {n:Int}(hn:n=256):F1 prog 279 [.int .i64 n] h (λv _=>∃ c0 c1 c2 c3 c4 c5 c6,v=.agg #[c0,c1,c2,c3,c4,c5,c6,.int .i64 (FI n)]):=by
 have hw:FI n=32:=xD hn;have O3:IS.length=16:=rfl;rw [hw];refine aQ func279 U ntmps279 U (λe he=>?_);refine ba [(0,_)] y9 ?_;have AD:=aP h;refine Sr (bp tX U (λb1=>?_));refine aj (Sr (bS ZR U (ng) U ?_));rintro _ h2 zH ⟨sa,sc,rfl,hQ⟩
 replace AD:=AD.mono zH
 refine Ru 1 U (aj (aK (Sr (Ru 2 U (aj (Cs U (λDv=>?_) λDv=>?_))))))
 rotate_left
 ·exfalso;omega
 refine Sr (du lu l_ U U U U U (λb4=>?_));refine du lu l_ U U U U U (λb5=>?_);refine du lu l_ U U U U U (λb6=>?_);refine du lu l_ U U U U U (λb7=>?_);refine aA (bi (cs:=[_,_,.slice none 0 0,_,_,_,_,_]) Xi U U) U ?_;refine bp tX U (λb8=>?_);refine aZ dv U U zW eE (by first|rfl|assumption) eE ?_;refine Nk [4,3,2,0] U (aK (Sr ?_));refine JL.own (L':=[.yY b8 301 _,.yY b1 301 _]) (λw hk=>hk.drop (by repeat (first|exact DZ _|apply List.Sublist.cons_cons|apply List.Sublist.cons))) ?_;refine dh 213 1 ?_;refine JL.own (λw hk=>hk.perm (.swap ..)) ?_;refine Ru 1 U (aj (aV (bU (λt_ S_ h_ L_=>∃ (i:Nat) (l:List UInt64) (ao:OA) (co:Nat) (xs:LV),t_=8-i/\S_=[(2,.pointer (some ⟨b1,0,none⟩)),(3,.slice sa IS.length sc),(4,.pointer (some ⟨b8,0,none⟩)),(5,.int .i64 i)]/\h2=h_/\L_=[.yY b8 301 [.int .u64 32,.int .i64 64,.slice ao l.length co,(.slice (some ⟨b4,0,none⟩) 3 3),(.slice (some ⟨b5,0,none⟩) 3 3),(.slice (some ⟨b6,0,none⟩) 3 3),(.slice (some ⟨b7,0,none⟩) 3 3),.int .i64 32],.row ao co 213 1 l.length xs,.yY b1 301 [.int .u64 0,.int .i64 0,.slice none 0 0,.slice none 0 0,.slice none 0 0,.slice none 0 0,.slice none 0 0,.int .i64 0]]/\(i<=8/\l.length=i/\yl C8 1 h2 xs l)) ⟨_,_,?_,⟨0,[],none,0,[],U,U,U,U,⟨by omega,U,bQ⟩⟩⟩ ?_)))
 ·exact IE
 rintro _ _ _ _ ⟨i,l,ao,co,xs,rfl,rfl,rfl,rfl,hi,GU,hC⟩;refine aK (Sr (Ru 2 U (aj (Cs U (λU6=>?_) λU6=>?_))))
 ·have Bx:i<8:=xE;have U3:i<IS.length:=xE;have b0z:=(IS[i]'U3).toNat_lt;refine aO (aK (aV (J.held ([]) 11 dY U (λCR=>?_))));refine Tk 0 U (by first|exact bY iA rfl|exact bH iA rfl) ?_;refine Tk 2 U (aY U) ?_;refine Tk 3 U (aY U) ?_;refine Te 4 U (aX dk U U n7 zL U xE) ?_;rintro _ ⟨b10,o10,b0T,rfl,b1i⟩;refine Tk 5 U (bG e_ U zL) ?_;refine Tk 6 U (by first|exact xG.ET rfl rfl xE xE xE|exact xG.quo rfl rfl xE) ?_;refine JH.PL 1 7 cq U U ?_ ?_
  ·unfold One;refine aA (aG dG U zV U) U ?_;refine aj ⟨(Dr CR),?_⟩;refine Ta 7 U ?_;unfold One;refine du iP n_ U U U U U (λb12=>?_);refine aj ⟨(Dr CR),?_⟩;refine Ta 8 U ?_;unfold One;refine di iP U U zL U zW zW U ((by show _=_;rw [UInt64.toNat_div];rfl:C8 _ [.int .u64 (((IS[i]'U3).toNat:Int) / 4294967296)] (IS[i]'U3 / 4294967296))) LD U U (λa13 c13 b1V b2D b2u=>?_);exact m37
  unfold One;refine du iP n_ U U U U U (λb14=>?_);refine aj ⟨(Dr CR),?_⟩;refine Ta 1 U ?_;unfold One;refine aA (aG dG U zV U) U ?_;refine aj ⟨(Dr CR),?_⟩;refine Ta 8 U ?_;unfold One;refine di iP U U zL U zW zW U ((by show _=_;rw [UInt64.toNat_div];rfl:C8 _ [.int .u64 (((IS[i]'U3).toNat:Int) / 4294967296)] (IS[i]'U3 / 4294967296))) LD U U (λa15 c15 b1T b2C b2s=>?_);exact m37
 refine bJ (Sr (aA (bK dv U zV eE) U ?_));refine aZ dv U U zW eE (by first|rfl|assumption) eE ?_;exact Nk [2,3] U (bM (bL U U dv zV eE) ⟨_,_,_,_,_,_,_,U⟩)
theorem wD {n:Int}(hn:n≠256):F1 prog 279 [.int .i64 n] h (λv _=>∃ c0 c1 c2 c3 c4 c5 c6,v=.agg #[c0,c1,c2,c3,c4,c5,c6,.int .i64 (FI n)]):=by
 have hw:FI n=if n=384 then 48 else if n=512 then 64 else 0:=xC hn;have O3:IS.length=16:=rfl;rw [hw];refine aQ func279 U ntmps279 U (λe he=>?_);refine ba [(0,_)] y9 ?_;have AD:=aP h;refine Sr (bp tX U (λb1=>?_));refine aj (Sr (bS ZR U (ng) U ?_));rintro _ h2 zH ⟨sa,sc,rfl,hQ⟩
 replace AD:=AD.mono zH
 refine Ru 1 U (aj (aK (Sr (Ru 2 U (aj (Cs U (λDv=>?_) λDv=>?_))))))
 ·exfalso;omega
 refine aO (Sr (du lu l_ U U U U U (λb4=>?_)));refine du lu l_ U U U U U (λb5=>?_);refine du lu l_ U U U U U (λb6=>?_);refine du lu l_ U U U U U (λb7=>?_);refine aA (bi (cs:=[_,_,.slice none 0 0,_,_,_,_,.int .i64 0]) Xi U U) U ?_;refine bp tX U (λb8=>?_);refine aZ dv U U zW eE (by first|rfl|assumption) eE ?_;refine Nk [6,3,2,0] U (aK (Sr (Ru 2 U (aj (Cs U (λU6=>?_) λU6=>?_)))))
 ·refine Sr (Ru 1 U (bj fN U U U zW iR ?_));refine aj (Rg (Ru 1 U (cX (AB.S9 dk U U (show _=((8:Nat):Int) from rfl) zL U xE) U ?_)));rintro _ ⟨a10,c10,rfl,b2k⟩;refine Ru 1 U (bj dG U U U zW iR ?_);refine Nk [6,3,2,0] U (aK (Sr (Ru 2 U (aj (Cs U (λPe=>?_) λPe=>?_)))))
  ·refine Sr (Ru 1 U (bj fN U U U zW iR ?_));refine Nk [6,3,2] U (Rg (Ru 1 U (cX (AB.NK dk U U (show _=((8:Nat):Int) from rfl) zL U xE) U ?_)));rintro _ ⟨a12,c12,rfl,b2j⟩;refine Ru 1 U (bj dG U U U zW iR ?_);refine aj (Sr (aA (bK dv U zV eE) U ?_));refine aZ dv U U zW eE (by first|rfl|assumption) eE ?_;refine Nk [2] U ?_;exfalso;omega
  refine aO (Kp [6,2] U (Sr (aA (bK dv U zV eE) U ?_)));refine aZ dv U U zW eE (by first|rfl|assumption) eE ?_;refine aj ?_
  exact m18
 refine aO (aK (Sr (Ru 2 U (Nk [42,6,3,2] U (Cs U (λPc=>?_) λPc=>?_)))))
 ·refine Sr (Ru 1 U (bj fN U U U zW iR ?_));refine aj (Rg (Ru 1 U (cX (AB.NK dk U U (show _=((8:Nat):Int) from rfl) zL U xE) U ?_)));rintro _ ⟨a14,c14,rfl,b2i⟩;refine Ru 1 U (bj dG U U U zW iR ?_);refine Nk [6,2] U (Sr (aA (bK dv U zV eE) U ?_));refine aZ dv U U zW eE (by first|rfl|assumption) eE ?_;refine aj ?_
  exact m18
 refine aO (Sr (aA (bK dv U zV eE) U ?_));refine aZ dv U U zW eE (by first|rfl|assumption) eE ?_;refine Nk [2] U ?_
 exact m18
theorem a0v {n:Int}:F1 prog 279 [.int .i64 n] h (λv _=>∃ c0 c1 c2 c3 c4 c5 c6,v=.agg #[c0,c1,c2,c3,c4,c5,c6,.int .i64 (FI n)]):=by
 by_cases hn:n=256
 ·exact SX hn
 ·exact wD hn
theorem sx {n:Int}:F1 prog 201 [.int .i64 n] h (λv _=>v=.int .i64 (A6 n)):=by
 rw [<- a0w];refine aQ func201 U ntmps201 U (λe he=>?_);refine ba [(0,_)] y9 ?_;have AD:=aP h;refine Sr (Ru 1 U (aj (Sr (Ru 1 U (bS a6Y U (a0v) U ?_)))));rintro _ h1 Gd ⟨c0,c1,c2,c3,c4,c5,c6,rfl⟩
 replace AD:=AD.mono Gd
 refine aA (xG.Z6 (o:=7) (cs:=[c0,c1,c2,c3,c4,c5,c6,.int .i64 (FI n)]) cq U U) U ?_;exact Ru 1 U (Nk [2] U (bM (aW U U) U))
def Dz (n:Int):LB:=if n=256 then [50,46,49,54,46,56,52,48,46,49,46,49,48,49,46,51,46,52,46,50,46,49] else if n=384 then [50,46,49,54,46,56,52,48,46,49,46,49,48,49,46,51,46,52,46,50,46,50] else if n=512 then [50,46,49,54,46,56,52,48,46,49,46,49,48,49,46,51,46,52,46,50,46,51] else []
def b0d (n:Int):Nd:=.mk 0 6 false ((Ai (Dz n)).getD []) []
def a8H (n:Int) (d:LB):Nd:=.mk 0 16 true [] [.mk 0 16 true [] [b0d n,.mk 0 5 false [] []],.mk 0 4 false d []]
theorem oV (n:Int):(Dz n).length<=30:=by
 unfold Dz;split
 ·decide
 ·split
  ·decide
  ·split<;>decide
def Yp (n:Int) (d:LB):LB:=(a8H n d).put.getD []
def a9c (n:Int) (d:LB) (k:Int):Int:=if A6 n=0\/(d.length:Int)≠A6 n then 40 else if k<(Yp n d).length+11\/512<k then 50 else 0
def a9b (n:Int) (d:LB) (k:Int):LB:=if a9c n d k=0 then [0,1]++List.replicate (k.toNat-(Yp n d).length-3) 255++[0]++Yp n d else []
def mp:Nat->Nat->Nat->Nat->Nat
 |0,_,_,N=>1 % N
 |f+1,X,E,N=>if E % 2=1 then X*mp f (X*X % N) (E / 2) N % N else mp f (X*X % N) (E / 2) N
def d0:LB:=List.replicate 32 1
def n0:Nat:=b0p 0
def x0:Nat:=b0q 0
def p0:Nat:=vL (b1n 0)
def m0:Nat:=DN (a9b 256 d0 64)
def s0:Nat:=mp 512 m0 p0 n0
theorem gR {n:Int}(h:A6 n≠0):AN n:=by
 unfold A6 at h;by_cases hn:AN n
 ·exact hn
 ·rw [xC hn] at h;exact m196
theorem rn (n:Int):∀ k,DB n (k+1)->∃ j,j<=k/\DB n (j+1)/\(j=0\/¬ DB n j)
 |0,h=>⟨0,aB _,h,.inl U⟩
 |k+1,h=>by
  by_cases hk:DB n (k+1)
  ·obtain⟨j,h1,h2⟩:=rn n k hk;exact⟨j,by omega,h2⟩
  ·exact⟨k+1,aB _,h,.inr hk⟩
theorem a0' (n:Int):∀ k,(DN (zU n k):Int)=n % 256 ^ k
 |0=>by simp [zU,DN,Int.emod_one]
 |k+1=>by
  have h1:0<=n / 256 ^ k % 256:=Int.emod_nonneg _ yD;have h2:n / 256 ^ k % 256<256:=Int.emod_lt_of_pos _ yD;have e:((UInt8.ofNat (n / 256 ^ k % 256).toNat).toNat:Int)=n / 256 ^ k % 256:=by rw [xZ];omega
  rw [zU,fe,d8,cP,bZ,e,a0' n k,F0,Gr];have:=FC n (256 ^ k);have h3:=FC (n / 256 ^ k) 256;have hd:n / (256 ^ k*256)=n / 256 ^ k / 256:=by rw [Int.ediv_ediv_of_nonneg (Int.le_of_lt (G' yD))]
  have h4:=FC n (256 ^ k*256);rw [hd] at h4;show _*(256:Int) ^ k+_=_;have h5:(n / 256 ^ k % 256+256*(n / 256 ^ k / 256))*256 ^ k=n / 256 ^ k*256 ^ k:=by rw [h3]
  grind
theorem a82 (n:Int) (j:Nat) (h:DB n (j+1)):sV (zU n (j+1))=n:=by
 have h0:=Yr n j;unfold sV;rw [h0,d8,show(zU n (j+1)).drop 1=zU n j from rfl,a0',Af];unfold DB at h;rw [show j+1-1=j from rfl] at h;have e:s8 (n / 256 ^ j % 256).toNat=n / 256 ^ j:=by
  generalize n / 256 ^ j=q at *;unfold s8;split<;>omega
 rw [e];have:=FC n (256 ^ j);rw [Int.mul_comm];omega
theorem TP (n:Int) (j:Nat) (h:DB n (j+1)) (hj:j=0\/¬ DB n j):AY (zU n (j+1))=true:=by
 cases j with
 |zero=>unfold AY;rw [xC (by rw [d8];decide),xD (d8 n 1)]
 |succ i=>rw [pt n i h];exact ae (hj.resolve_left xE)
theorem cK (n:Int) (h0:-9223372036854775808<=n) (h1:n<=9223372036854775807) :
 (Nd.mk 0 2 false (B2 n) []).AA=true/\(Nd.mk 0 2 false (B2 n) []).D7=n/\(B2 n).length<=8/\1<=(B2 n).length/\∃ b,(Nd.mk 0 2 false (B2 n) []).wr=(b,0)/\b.length<=10:=by
 obtain⟨j,hj7,hf,hj⟩:=rn n 7 (a9d n h0 h1);rw [pC n j hj7 hj hf];have hl:=d8 n (j+1);have Mi:=TP n j hf hj;have hw:(Nd.mk 0 2 false (zU n (j+1)) []).whole=true:=fl.2 ⟨U,.inl U,U,U,Mi⟩;have zt:(Nd.mk 0 2 false (zU n (j+1)) []).AA=true:=by rw [jv,hw,ae xE];rfl
 refine⟨zt,by rw [P2 zt,a82 n j hf],by omega,by omega,BM 0 2 false (j+1)++zU n (j+1),?_,?_⟩
 ·have hp:(Nd.mk 0 2 false (zU n (j+1)) []).put=some (BM 0 2 false (j+1)++zU n (j+1)):=by
   have b0L:EU 0 2 false (zU n (j+1)) []=true:=by
    unfold EU B6;rw [m6 (.inl U),Mi];rfl
   simp only [Nd.put];rw [b0L,xD U,Nd.B0,AI,hl]
  have hh:=j6 (c:=0) (t:=2) (k:=false) (n:=j+1) xE;unfold Nd.wr;rw [hp];simp only;rw [xC (by simp [Nd.rk,Nd.CO]),xC (by rw [hh];simp [hl];omega)]
 ·have hh:=j6 (c:=0) (t:=2) (k:=false) (n:=j+1) xE;rw [hh];simp [hl];omega
theorem cU (l:List UInt32):(Bt l).Cu=true/\(Bt l).BE=Fh l/\(Bt l).sz=1+(bl (vL l) / 8+1):=by
 have hn:Bt l=.mk 0 2 false (be (bl (vL l) / 8+1) (vL l)) []:=by unfold Bt;rw [p9,cT]
 have hlen:=lr (bl (vL l) / 8+1) (vL l);have TV:=ub (vL l);have GF:xF (be (bl (vL l) / 8+1) (vL l)) 0=vL l / 256 ^ (bl (vL l) / 8):=by
  show(UInt8.ofNat _).toNat=_;rw [xZ];exact zx (Nat.lt_trans TV yD)
 have Mi:AY (be (bl (vL l) / 8+1) (vL l))=true:=by
  unfold AY;rw [xC xE];split
  ·rfl
  ·rename_i h1;obtain⟨k,hk⟩:∃ k,bl (vL l) / 8=k+1:=⟨bl (vL l) / 8-1,by omega⟩;refine ae ?_;rw [GF];rw [hk] at TV |-
   have H3:xF (be (k+1+1) (vL l)) 1=vL l / 256 ^ k % 256:=by
    show(UInt8.ofNat _).toNat=_;rw [xZ]
   have h2:=sw (vL l) k hk;rw [H3];rintro(⟨e1,e2⟩|⟨e1,e2⟩)
   ·have:=h2 e1;rw [yh,<- zm] at e1;omega
   ·omega
 have hw:(Nd.mk 0 2 false (be (bl (vL l) / 8+1) (vL l)) []).whole=true:=fl.2 ⟨U,.inl U,U,U,Mi⟩;have zt:=QV hw (by rw [GF];exact TV);rw [hn];refine⟨zt,?_,by simp [Nd.sz,Nd.yP,hlen]⟩;have:(Nd.mk 0 2 false (be (bl (vL l) / 8+1) (vL l)) []).BE=CV (DN (be (bl (vL l) / 8+1) (vL l))):=xD zt;rw [this,a3f,gk]
theorem a7h (l:List UInt32):bl (vL l)<=32*l.length:=by
 have:=MM l;rw [qO] at this;exact n9 _ _ this
def Bw (n x:List UInt32):Nd:=.mk 0 16 true [] [Bt n,Bt x]
theorem lP (n x:List UInt32) (h1:n.length<=4096) (h2:x.length<=4096):(Bw n x).sz<=10000000:=by
 have e1:=(cU n).2.2;have e2:=(cU x).2.2;have b1:=kX n;have b2:=kX x;simp only [Bw,Nd.sz,Nd.yP,ay];omega
def Re (n x d:List UInt32):Int:=if GA (vL n) (vL x) (vL d)=true then 0 else 50
def HU (n x d:List UInt32):LB:=if GA (vL n) (vL x) (vL d)=true then(Bw n x).put.getD [] else []
theorem PF:yH prog 118=true:=by kernel_rfl
theorem lG (n:List UInt32):∃ t,(Bt n).put=some t:=by
 have h:=(cU n).1;unfold Nd.Cu Nd.whole at h;simp only [xB] at h;exact yE.1 h.1.2
theorem pA {n x:List UInt32}(h1:n.length<=4096) (h2:x.length<=4096):(Bw n x).wr=((Bw n x).put.getD [],0):=by
 have e1:=cU n;have e2:=cU x;have b1:=kX n;have b2:=kX x;have k4:∀ ks,EU 0 16 true [] ks=true:=λks=>by
  unfold EU;rw [show B6 0 16 true=true from by decide];simp
 obtain⟨t1,ht1⟩:=lG n;obtain⟨t2,ht2⟩:=lG x;have l1:=(dA _ _ _ (aB _) ht1).2;have l2:=(dA _ _ _ (aB _) ht2).2;obtain⟨t,ht⟩:∃ t,(Bw n x).put=some t:=by
  simp [Bw,Nd.put,Nd.B0,k4,ht1,ht2]
 have l3:=(dA _ _ _ (aB _) ht).2;have CP:=lP n x h1 h2;have hk:(Bw n x).sz<=100000:=by
  simp only [Bw,Nd.sz,Nd.yP,ay];omega
 unfold Nd.wr;rw [ht];simp only [zw];rw [xC (by simp [Bw,Bt,Nd.rk,Nd.CO]),xC xE]
theorem XQ (l:LB):(xN l).1.sz<=1073741824:=by
 have key:(xN l).1=NZ\/(xN l).2=(0,0):=by
  unfold xN;split
  ·exact .inl U
  ·split
   ·exact .inl U
   ·split
    ·exact .inl U
    ·exact .inr U
 rcases key with h|h
 ·rw [h];decide
 ·have hw:=tZ (l:=l) (x:=(xN l).1) (a:=0) (by rw [<- h]);have:=a7I hw;omega
def hdN:Except Int (Nat×Nat)->Nat|.ok (n,_)=>n|.error _=>0
def hdQ:Except Int (Nat×Nat)->Nat|.ok (_,q)=>q|.error _=>0
def hdC:Except Int (Nat×Nat)->Int|.ok _=>0|.error c=>c
theorem TO {n:Nat}(h:¬ n<128):(EL n).length=1+EV n:=by unfold EL;rw [xC h];simp [lr];omega
theorem a5W {n k:Nat}(h1:1<=k) (h2:k<=4) (h:n<256 ^ k):EV n<=k:=by
 have:k=1\/k=2\/k=3\/k=4:=by omega
 have e1:(256:Nat) ^ 1=256:=rfl;have e2:(256:Nat) ^ 2=65536:=rfl;have e3:(256:Nat) ^ 3=16777216:=rfl;have e4:(256:Nat) ^ 4=4294967296:=rfl;unfold EV
 rcases this with rfl|rfl|rfl|rfl<;>simp only [e1,e2,e3,e4] at h<;>(repeat' split)<;>omega
theorem a6m {n k:Nat}(h1:1<=k) (h2:k<=4) (h:n<256 ^ k) (h3:¬ n<128):(EL n).length=k+1<->0<n / 256 ^ (k-1):=by
 have hn:n<=140737488355328:=by
  have:(256:Nat) ^ k<=256 ^ 4:=yf yD h2;have e4:(256:Nat) ^ 4=4294967296:=rfl;omega
 have a:=mD n;have b:=a5W h1 h2 h;rw [TO h3];by_cases hk:k-1<=EV n
 ·rw [t9 n (k-1) hn xE hk];omega
 ·constructor
  ·omega
  ·intro h5;exfalso;have:=(t9 n (EV n) hn xE (aB _)).1 (zi h5 (Nat.div_le_div_left (yf yD xE) (G7 yD)));omega
def hdE (s:Except Int (Nat×Nat)) (en:Nat):Int:=if hdC s=0/\(en:Int)-hdQ s<hdN s then 30 else hdC s
def Vb (s:Except Int (Nat×Nat)) (en d:Nat):Int:=if hdE s en=0/\d=0 then 33 else hdE s en
theorem oD {l:LB}{p en:Nat}{c:Int}(h:ES l p en=.error c):c≠0:=by
 unfold ES at h
 (repeat' split at h)<;>first|(cases h;decide)|cases h
theorem a6n (l:LB) (p en:Nat):hdQ (ES l p en)<=en:=by
 cases h:ES l p en with
 |error c=>exact yQ _
 |ok x=>exact(nr h).2
theorem RF {c:Int}{en d:Nat}(hc:c≠0):Vb (.error c) en d=c:=by
 have e:hdE (.error c) en=c:=xC (λhh=>hc hh.1);unfold Vb;rw [e];exact xC (λhh=>hc hh.1)
theorem RE {n q en d:Nat}:Vb (.ok (n,q)) en d=if(en:Int)-q<n then 30 else if d=0 then 33 else 0:=by
 have e:hdE (.ok (n,q)) en=if(en:Int)-q<n then 30 else 0:=by
  by_cases h1:(en:Int)-q<n
  ·rw [xD h1];exact xD ⟨U,h1⟩
  ·rw [xC h1];exact xC (λhh=>h1 hh.2)
 unfold Vb;rw [e];by_cases h1:(en:Int)-q<n
 ·simp only [xD h1];simp
 ·simp only [xC h1];by_cases h2:d=0
  ·simp [h2]
  ·simp [h2]
theorem a2z {l:LB}{p en d:Nat}{s:Except Int (Nat×Nat)}(hp:p<en) (hm:B6 (xF l p / 64:Nat) (xF l p % 32:Nat) (decide (xF l p / 32 % 2=1))=true) (hs:ES l (p+1) en=s) (hF:Vb s en d≠0):D4 d l p en=.error (p,Vb s en d):=by
 have key:∀ ok,(ok=false<->d=0)->Gb l p en ok=.error (p,Vb s en d):=λok zt=>by
  unfold Gb;rw [xC xE,xC (by rw [hm];decide),hs];cases s with
  |error c=>simp only;rw [RF (oD hs)]
  |ok x =>
   obtain⟨n,q⟩:=x;have hq:=(nr hs).2;rw [RE] at hF |-;simp only;by_cases h1:n<=en-q
   ·have h3:¬ (en:Int)-q<n:=by omega
    rw [xC h3] at hF;rw [xC (show ¬ ¬ n<=en-q from λhh=>hh h1),xC h3];by_cases h2:d=0
    ·rw [xD (zt.2 h2),xD h2]
    ·rw [xC h2] at hF;exact absurd U hF
   ·rw [xD (show ¬ n<=en-q from h1),xD (show(en:Int)-q<n by omega)]
 cases d with
 |zero=>exact uJ (key false (by simp))
 |succ d=>exact Qx (key true (by simp))
theorem a6o {l:LB}{p en d:Nat}{s:Except Int (Nat×Nat)}(hp:p<en) (hm:B6 (xF l p / 64:Nat) (xF l p % 32:Nat) (decide (xF l p / 32 % 2=1))=true) (hs:ES l (p+1) en=s) (hF:Vb s en d=0) :
 ∃ n q d',hdN s=n/\hdQ s=q/\d=d'+1/\Gb l p en true=.ok (xF l p / 64,xF l p % 32,decide (xF l p / 32 % 2=1),n,q):=by
 cases s with
 |error c=>rw [RF (oD hs)] at hF;exact absurd hF (oD hs)
 |ok x =>
  obtain⟨n,q⟩:=x;have hq:=(nr hs).2;rw [RE] at hF;by_cases h1:(en:Int)-q<n
  ·rw [xD h1] at hF;exact absurd hF yD
  ·rw [xC h1] at hF;by_cases h2:d=0
   ·rw [xD h2] at hF;exact absurd hF yD
   ·refine⟨n,q,d-1,U,U,by omega,?_⟩;unfold Gb;rw [xC xE,xC (by rw [hm];decide),hs];simp only;rw [xC xE,xC yD]
theorem ny:∀ (ks:LN) (set:Bool) (lo lo':Option LB) (ab b:LB),Nd.B0 set ks lo ab=some b->Nd.B0 false ks lo' ab=some b
 |[],set,lo,lo',ab,b,h=>by simpa [Nd.B0] using h
 |x::r,set,lo,lo',ab,b,h=>by
  simp only [Nd.B0] at h |-
  cases hx:x.put with
  |none=>simp [hx] at h
  |some z =>
   simp only [hx] at h |-
   split at h
   ·cases h
   ·simp only [A5,bg,if_false];exact ny r set _ _ _ _ h
theorem a1s {d:Nat}{l:LB}{stop:Nat}(DW:stop<=l.length):∀ (f q1:Nat) (acc:LN) (rr:Bool) (last:Nat) (ks:LN) (r':Bool) (q2:Nat),q1<=stop->stop<=q1+f->GQ (D4 d l) l stop f q1 acc rr last=.ok (ks,r',q2) ->
 ∃ r,ks=acc++r/\Nd.CO r<=d/\q2=stop/\∀ ab lo,Nd.B0 false r lo ab=some (ab++Aq l q1 stop):=by
 intro f
 induction f with
 |zero =>
  intro q1 acc rr last ks r' q2 h1 h2 h3;simp only [GQ] at h3;exact m79
 |succ f ih =>
  intro q1 acc rr last ks r' q2 h1 h2 h3;by_cases yJ:q1<stop
  ·cases hx:D4 d l q1 stop with
   |error e=>rw [oG yJ hx] at h3;cases h3
   |ok y =>
    obtain⟨x,p'⟩:=y;rw [nt yJ hx] at h3;have hle:=iL d l q1 stop x p' hx;obtain⟨hp,hr⟩:=oF d l q1 stop x p' DW hx;obtain⟨r,e1,e2,e3,e4⟩:=ih p' _ _ _ _ _ _ hle.2 xE h3;refine⟨x::r,by simp [e1],by simp only [Nd.CO];omega,e3,λab lo=>?_⟩;simp only [Nd.B0,hp,A5,bg,if_false];rw [e4,xW,jb xE xE]
  ·rw [gw yJ] at h3;exact m79
theorem WO {d:Nat}{l:LB}{p en c t n q p':Nat}{r:Bool}(he:en<=l.length) (hen:en<4294967296) (hH:Gb l p en true=.ok (c,t,true,n,q)) (hK:GQ (D4 d l) l (q+n) n q [] true q=.ok (ks,r,p')) :
 (Nd.mk c t true [] ks).put.isSome=(r||(decide (c≠0)||decide (t≠17))):=by
 have h0:=nu hH;obtain⟨hm,Ge,hn⟩:=sG hH he;have hN:D4 (d+1) l p en=if r||(decide (c≠0)||decide (t≠17)) then .ok (.mk c t true [] ks,p') else .error (p,34):=by rw [eJ hH,hK]
 cases hr:(r||(decide (c≠0)||decide (t≠17))) with
 |true =>
  rw [hr,xD rfl] at hN;rw [(oF _ _ _ _ _ _ he hN).1];rfl
 |false =>
  rw [hr,xC yD] at hN;cases hp:(Nd.mk c t true [] ks).put with
  |none=>rfl
  |some b =>
   exfalso;obtain⟨r2,e1,e2,e3,e4⟩:=a1s (d:=d) (l:=l) (stop:=q+n) xE n q [] true q ks r p' xE xE hK;rw [xP] at e1;subst e1;have hb:=hp;rw [uS hm rfl] at hb;cases Le:Nd.B0 (decide ((c:Int)=0)&&decide ((t:Int)=17)) ks none [] with
   |none=>rw [Le] at hb;simp at hb
   |some z =>
    rw [Le] at hb;simp only [AI,au] at hb;have hz:=ny _ _ _ none _ _ Le;rw [e4 [] none,xP] at hz;injection hz with hz;subst hz;have hbc:b=Aq l p (q+n):=by
     rw [<- hb,mT xE xE,show q+n-q=n by omega,<- Ge,jb xE xE]
    have Nz:b.length=q+n-p:=by rw [hbc,mT xE xE]
    have:=oE (d+1) _ b l p en hp (by simp only [Nd.rk];omega) xE (by rw [hbc];unfold Aq;exact List.take_prefix _ _) xE;rw [this] at hN;cases hN
theorem WI {l:LB}{p en c t n q:Nat}(he:en<=l.length) (hH:Gb l p en true=.ok (c,t,false,n,q)):(Nd.mk c t false bs []).put.isSome=(decide (c=2)||AJ t bs):=by
 obtain⟨hm,_,_⟩:=sG hH he;have hr:=(R0 hm).1;rw [uR hm rfl];by_cases h2:c=2
 ·subst h2;simp
 ·have h0:(c:Int)=0:=by omega
  rw [ah h2,ae h0];cases AJ t bs<;>rfl
theorem X0 {d:Nat}{l:LB}{p e:Nat}{x:Nd}{q:Nat}(he:e<=l.length) (h:D4 d l p e=.ok (x,q)):x.sz+p<=q:=by
 have h1:=(oF d l p e x q he h).1;have h2:=iL d l p e x q h;have:=Nd.X6 _ x _ (aB _) h1;rw [mT xE xE] at this;omega
def rrX:MI (Nd×Nat)->Nd|.ok (x,_)=>x|.error _=>NZ
def rrQ:MI (Nd×Nat)->Nat|.ok (_,q)=>q|.error _=>0
def rrA:MI (Nd×Nat)->Int|.ok _=>0|.error (a,_)=>a
def rrC:MI (Nd×Nat)->Int|.ok _=>0|.error (_,c)=>c
theorem WH {s:MI (Nd×Nat)}(h:rrC s≠0):s=.error (rrA s,rrC s):=by
 cases s with
 |error e=>rfl
 |ok x=>exact absurd U h
theorem a3B {d:Nat}{l:LB}{p e:Nat}(hp:p<=e) (h:rrC (D4 d l p e)=0):D4 d l p e=.ok (rrX (D4 d l p e),rrQ (D4 d l p e)):=by
 cases hs:D4 d l p e with
 |ok x=>rfl
 |error x =>
  obtain⟨a,c⟩:=x;rw [hs] at h;have h:c=0:=h;have:=X1 d l p e a c hp hs;omega
theorem a5h {d d':Nat}{l:LB}{p en c t n q f pos last:Nat}{k r:Bool}{acc:LN}{a e:Int}(hd:d=d'+1) (hH:Gb l p en true=.ok (c,t,k,n,q)) (hk:k=true) (hK:GQ (D4 d' l) l (q+n) n q [] true q=GQ (D4 d' l) l (q+n) (f+1) pos acc r last) (hp:pos<q+n)
 (hx:D4 d' l pos (q+n)=.error (a,e)):D4 d l p en=.error (a,e):=by
 subst hd hk;rw [eJ hH,hK,oG hp hx]
theorem WY {d d':Nat}{l:LB}{p en c t n q f pos last:Nat}{k r:Bool}{acc:LN}{bs:LB}(he:en<=l.length) (hen:en<4294967296) (hd:d=d'+1) (hH:Gb l p en true=.ok (c,t,k,n,q))
 (h1:k=true->bs=[]/\GQ (D4 d' l) l (q+n) n q [] true q=GQ (D4 d' l) l (q+n) f pos acc r last) (h0:k=false->acc=[]/\bs=Aq l q (q+n)) (hs:pos<=q+n) (hx:¬ (k=true/\pos<q+n)) :
 D4 d l p en=if(Nd.mk c t k bs acc).put.isSome then .ok (.mk c t k bs acc,q+n) else .error (p,34):=by
 subst hd;cases k with
 |true =>
  obtain⟨rfl,hK⟩:=h1 U;have Yu:¬ pos<q+n:=λhh=>hx ⟨U,hh⟩;have hp:pos=q+n:=by omega
  replace hK:=hK.trans (gw Yu)
  rw [WO he hen hH hK,eJ hH,hK,hp]
 |false =>
  obtain⟨rfl,rfl⟩:=h0 U;rw [WI he hH,jk hH]
section
attribute [local irreducible] Nat.sub
theorem ml (l:yG) (p en:Nat) (he:en<=l.length) (hp:p<=l.length) (hl:l.length<=16777216):yq prog 77 [.bs l,.i (p:Int),.i (en:Int)] (.zZ [.i (hdN (ES l (p+1) en)),.i (hdQ (ES l (p+1) en)),.i (hdC (ES l (p+1) en))]):=by
 have bad:∀ c,ES l (p+1) en=.error c->yR [.i 0,.i 0,.i c]=.zZ [.i (hdN (ES l (p+1) en)),.i (hdQ (ES l (p+1) en)),.i (hdC (ES l (p+1) en))]:=λc h=>by rw [h];rfl
 have a97:∀ n q:Nat,∀ q':Int,ES l (p+1) en=.ok (n,q)->q'=(q:Int)->yR [.i (n:Int),.i q',.i 0]=.zZ [.i (hdN (ES l (p+1) en)),.i (hdQ (ES l (p+1) en)),.i (hdC (ES l (p+1) en))]:=λn q q' h hq=>by rw [h,hq];rfl
 have hbe:xF l (p+1)=(l.getD (p+1) 0).toNat:=rfl;have yJ:=bn l (p+1);have e1:((p:Int)+1).toNat=p+1:=by omega
 refine an func77 U ntmps77 U (λe=>?_);refine Vi (λc=>?_) (λc=>?_)
 ·exact Vr (bad 30 (by unfold ES;rw [xD xE]))
 refine V ?_;change Al _ _ _ _ _ _ ((21,.d (.v (.int .u8 ((l.getD (p+1) 0).toNat:Int))))::_) _;refine Vi (λc2=>?_) (λc2=>?_)
 ·refine Vr ?_;rw [<- hbe];exact a97 _ (p+1+1) _ (by unfold ES;rw [xC xE,xD xE]) xE
 refine Vg (λc3=>?_) (λc3=>?_)
 ·exact Vr (bad 32 (by unfold ES;rw [xC xE,xC xE,xD xE]))
 refine Vi (λc4=>?_) (λc4=>?_)
 ·exact Vr (bad 32 (by unfold ES;rw [xC xE,xC xE,xD xE]))
 refine Vi (λc5=>?_) (λc5=>?_)
 ·exact Vr (bad 30 (by unfold ES;rw [xC xE,xC xE,xC xE,xD xE]))
 obtain⟨kk,hkk⟩:∃ kk:Nat,xF l (p+1)=128+kk:=⟨xF l (p+1)-128,by omega⟩;obtain⟨sub,P3⟩:∃ sub,sub=(l.drop (p+2)).take kk:=⟨_,U⟩;have O3:sub.length=kk:=by rw [P3];simp;omega
 have hsi:∀ (i:Nat) (hi:i<sub.length),l.getD (p+2+i) 0=sub[i]:=by
  subst P3;intro i hi;simp at hi;simp [aJ,show p+2+i<l.length by omega]
 refine V ?_;refine Lk (γ:=Nat) [0,1] (λi=>i<=kk) (λi=>kk-i) (λi=>[(10,.d (.i (kk:Int))),(11,.d (.i (BZ (sub.take i):Nat))),(12,.d (.i (i:Int)))]) (λ_=>[]) 0 xE U ?_;intro i hi;have Nz:=pU sub i;refine Vi (λc6=>?_) (λc6=>?_)
 ·have b1k:=uW i xE;have DW:=kY sub i xE;have b0D:=hsi i xE;rw [<- b0D] at DW;have hb9:=(l.getD (p+2+i) 0).toNat_lt;refine V ?_;change Al _ _ _ _ _ _ ((55,.d (.v (.int .u8 ((l.getD (p+2+i) 0).toNat:Int))))::_) _;refine V ?_;exact⟨i+1,by omega,by omega,Fg,trivial⟩
 obtain rfl:i=kk:=by omega
 have hv:BZ ((l.drop (p+1+1)).take (xF l (p+1)-128))=BZ (sub.take i):=by rw [hkk,show 128+i-128=i by omega,show p+1+1=p+2 by omega,<- P3,aD xE]
 have hHL:=@a6m (BZ (sub.take i)) i xE xE Nz;have h25:=yf (n:=256) yD (show i<=4 by omega);have hw:256 ^ (xF l (p+1)-128-1)=256 ^ (i-1):=by rw [hkk,show 128+i-128=i by omega]
 refine Vg (λc7=>?_) (λc7=>?_)
 ·exact m155
 have hhl:=hHL xE;refine Vi (λc8=>?_) (λc8=>?_)
 ·exact m155
 ·refine Vr ?_;exact a97 _ (p+1+1+(xF l (p+1)-128)) _ (by unfold ES;rw [xC xE,xC xE,xC xE,xC xE,xC (by rw [hv,hw];omega),hv]) xE
instance:Cn prog 77 (type_of% @ml):=⟨@ml⟩
end
section
attribute [local irreducible] Nat.sub
def rrD (s:MI (Nd×Nat)):D:=.zZ [.nd (rrX s),.i (rrQ s),.st (UT.enc ⟨rrA s,rrC s⟩)]
theorem oy:∀ (d:Nat) (l:yG) (p en:Nat),l.length<=16777216->en<=l.length->p<=l.length->d<=32->yq prog 25 [.bs l,.i (p:Int),.i (en:Int),.i ((33:Int)-d)] (rrD (D4 d l p en)):=by
 intro d
 induction d using Nat.strongRecOn with
 |_ d ih =>
 intro l p en GU hen b0K hd;have bad:∀ a c:Int,D4 d l p en=.error (a,c)->yR [.nd NZ,.i 0,.st (UT.enc ⟨a,c⟩)]=rrD (D4 d l p en):=λa c h=>by rw [h];rfl
 have hbe:xF l p=(l.getD p 0).toNat:=rfl;have yJ:=bn l p;obtain⟨c,MA⟩:∃ c,xF l p / 64=c:=⟨_,U⟩;obtain⟨t,Yv⟩:∃ t,xF l p % 32=t:=⟨_,U⟩;obtain⟨k,O4⟩:∃ k,decide (xF l p / 32 % 2=1)=k:=⟨_,U⟩;obtain⟨s,hs⟩:∃ s,ES l (p+1) en=s:=⟨_,U⟩;have hsq:=a6n l (p+1) en;have e1:((l.getD p 0).toNat:Int) / 64=(c:Int):=by omega
 have e2:((l.getD p 0).toNat:Int) % 32=(t:Int):=by omega
 have e3:decide (((l.getD p 0).toNat:Int) / 32 % 2=1)=k:=by rw [<- O4];exact y7.2 xE
 have chd:=ml l p en hen b0K GU;rw [hs] at chd hsq;refine an func25 U ntmps25 U (λe=>?_);refine Vi (λq1=>?_) (λq1=>?_)
 ·exact Vr (bad p 30 (gv U (by unfold Gb;rw [xD xE])))
 refine V ?_;rw [e1,e2,e3];refine Ci U (λq2=>?_) (λq2=>?_)
 ·have Mg:B6 (c:Nat) (t:Nat) k=false:=by simpa using q2
  exact Vr (bad p 31 (gv U (by unfold Gb;rw [xC xE,xD (by rw [MA,Yv,O4];exact Mg)])))
 have Mg:B6 (c:Nat) (t:Nat) k=true:=by simpa using q2
 refine Sb ?_;refine Jw [0,1,2,3,8,10,12] [(13,.d (.i (hdN s))),(14,.d (.i (hdQ s))),(15,.d (.i (hdC s)))] U ?_;refine Sb ?_;refine Jb 67 [0,1,2,3,8,10,12,13,14,15] (decide (hdC s=0/\(en:Int)-hdQ s<hdN s)) U Yj ?_;refine Sb ?_;refine Js [0,1,2,3,8,10,12,13,14] [(15,.d (.i (hdE s en)))] U ?_ ?_
 ·refine Ci U (λq=>?_) (λq=>?_)
  ·have:hdE s en=30:=xD q;exact m89
  ·have:hdE s en=hdC s:=xC q;exact m89
 refine Sb ?_;refine Jb 73 [0,1,2,3,8,10,12,13,14,15] (decide (hdE s en=0/\d=0)) U Yj ?_;refine Sb ?_;refine Js [0,1,2,3,8,10,12,13,14] [(15,.d (.i (Vb s en d)))] U ?_ ?_
 ·refine Ci U (λq=>?_) (λq=>?_)
  ·have:Vb s en d=33:=xD q;exact m89
  ·have:Vb s en d=hdE s en:=xC q;exact m89
 refine Vi (λq3=>?_) (λq3=>?_)
 ·exact Vr (bad p (Vb s en d) (a2z xE (by rw [MA,Yv,O4];exact Mg) hs q3))
 obtain⟨zn,zq,d',hzn,hzq,hdd,hH⟩:=a6o (d:=d) xE (by rw [MA,Yv,O4];exact Mg) hs xE;rw [hzn,hzq];have hle:=nu hH;rw [MA,Yv,O4] at hH;cases k with
 |false =>
  have YH:=@WY d d' l p en c t zn zq zn (zq+zn) 0 false true [] (Aq l zq (zq+zn)) hen xE hdd hH (λh=>by cases h) (λ_=>⟨U,U⟩) xE (λh=>by cases h.1);have Nz:(Aq l zq (zq+zn)).length=zn:=by unfold Aq;simp;omega
  have fin:∀ q:Int,q=((zq+zn:Nat):Int)->(Nd.mk c t false (Aq l zq (zq+zn)) []).put.isSome=true->yR [.nd (.mk c t false (Aq l zq (zq+zn)) []),.i q,.st (UT.enc ⟨0,0⟩)]=rrD (D4 d l p en):=λq hq h=>by rw [YH,xD h,hq];rfl
  have b1e:((l.drop zq).take (zq+zn-zq)).length=zn:=Nz;refine V ?_;refine bm U (yi.b1q (e:=5) kB zq (zq+zn) U U U U U xE cq U U) ?_;refine V ?_;refine L1 ?_;refine Vi (λq6=>?_) (λq6=>?_)
  ·exact Vr (bad p 34 (by rw [YH,xC (by simpa [Aq] using q6)]))
  ·exact Vr (fin _ U (by simpa [Aq] using q6))
 |true =>
  refine V ?_;refine Rv kN 2 4 33 U U U U U U ?_;refine Lk (γ:=Nat×Nat×Nat×LN×Bool) [0,1,3,8,10,12,13,14] (λ(f,pos,last,acc,r)=>GQ (D4 d' l) l (zq+zn) zn zq [] true zq=GQ (D4 d' l) l (zq+zn) f pos acc r last/\zq<=pos/\pos<=zq+zn/\zq+zn<=pos+f/\Nd.yP acc+zq<=pos/\acc.length+zq<=pos) (λ(_,pos,_)=>zq+zn-pos) (λ(_,pos,_)=>[(16,.d (.i (pos:Int)))]) (λ(_,_,_,acc,_)=>[(2,.var 33 [.d (.i c),.d (.i t),.d (.bq true),.d (.v (.slice none 0 0)),.row 3]),(3,.row 33 (.AX acc)),(1,.var 36 [.d (.i 0),.d (.i 0)]),(0,.var 33 [.d (.i 0),.d (.i 0),.d (.bq false),.d (.v (.slice none 0 0)),.d (.v (.slice none 0 0))])]) (zn,zq,zq,[],true) ⟨U,by omega,by omega,by omega,by simp [Nd.yP],by simp⟩ U ?_;rintro⟨f,pos,last,acc,r⟩ ⟨hK,h1,h2,h3,h4,h5⟩;refine Vi (λq4=>?_) (λq4=>?_)
  ·obtain⟨f',rfl⟩:∃ f',f=f'+1:=⟨f-1,by omega⟩;have ck0:=ih d' xE l pos (zq+zn) GU xE xE xE;rw [show((33:Int)-(d':Int))=33-(d:Int)+1 by omega] at ck0;have hyo:=@a3B d' l pos (zq+zn) xE;have hyb:=@WH (D4 d' l pos (zq+zn));obtain⟨y,hy⟩:∃ y,D4 d' l pos (zq+zn)=y:=⟨_,U⟩;rw [hy] at hyo hyb ck0;have ck:yq prog 25 [.bs l,.i (pos:Int),.i ((zq:Int)+zn),.i (33-(d:Int)+1)] (.zZ [.nd (rrX y),.i (rrQ y),.st (UT.enc ⟨rrA y,rrC y⟩)]):=ck0;clear ck0;refine Vi (λq5=>?_) (λq5=>?_)
   ·exact Vr (bad _ _ (a5h hdd hH U hK xE (hy.trans (hyb q5))))
   ·have hye:=hy.trans (hyo q5);have O2:=iL d' l pos (zq+zn) _ _ hye;have hxz:=X0 xE hye;refine V ?_;exact⟨(f',rrQ y,pos,acc++[rrX y],r&&(decide (acc.length=0)||decide (Go.Lib.compareBytes (Aq l last pos) (Aq l pos (rrQ y))<=0))),by dsimp only;omega,⟨by rw [hK,nt xE hye],by omega,by omega,by omega,by rw [Nd.Hp];simp only [Nd.yP];omega,by simp only [aF,aw,ay];omega⟩,Fg,Gt⟩
  ·have YH:=@WY d d' l p en c t zn zq f pos last true r acc [] hen xE hdd hH (λ_=>⟨U,hK⟩) (λh=>by cases h) xE (λh=>by omega);have fin:∀ q:Int,q=((zq+zn:Nat):Int)->(Nd.mk c t true [] acc).put.isSome=true->yR [.nd (.mk c t true [] acc),.i q,.st (UT.enc ⟨0,0⟩)]=rrD (D4 d l p en):=λq hq h=>by rw [YH,xD h,hq];rfl
   refine Pb 3 U ?_;refine Vi (λq6=>?_) (λq6=>?_)
   ·exact Vr (bad p 34 (by rw [YH,xC (by simpa using q6)]))
   ·exact Vr (fin _ U (by simpa using q6))
instance:Cn prog 25 (type_of% @oy):=⟨@oy⟩
theorem sy (l:yG) (hl:l.length<=16777216):yq prog 10 [.bs l] (.zZ [.nd (xN l).1,.st (UT.enc ⟨(xN l).2.1,(xN l).2.2⟩)]):=by
 have c:=oy 32 l 0 l.length hl (aB _) xE yD;obtain⟨y,hy⟩:∃ y,D4 32 l 0 l.length=y:=⟨_,U⟩;have hyo:=@a3B 32 l 0 l.length xE;have hyb:=@WH (D4 32 l 0 l.length);rw [hy] at c hyo hyb;have te:∀ a c,y=.error (a,c)->xN l=(NZ,a,c):=λa c h=>by unfold xN;rw [xC xE,hy,h]
 have tg:∀ x q,y=.ok (x,q)->xN l=if q<l.length then(NZ,(q:Int),35) else(x,0,0):=λx q h=>by unfold xN;rw [xC xE,hy,h]
 have c1:yq prog 25 [.bs l,.i 0,.i (l.length:Int),.i 1] (.zZ [.nd (rrX y),.i (rrQ y),.st (UT.enc ⟨rrA y,rrC y⟩)]):=c;clear c;refine an func10 U ntmps10 U (λe=>?_);refine Vi (λq=>by omega) (λq=>?_);refine Vi (λq2=>?_) (λq2=>?_)
 ·refine Vr ?_;rw [te _ _ (hyb q2)];rfl
 have hye:=hyo q2;refine Vi (λq3=>?_) (λq3=>?_)
 ·refine Vr ?_;rw [tg _ _ hye,xD xE];rfl
 ·refine Vr ?_;rw [tg _ _ hye,xC xE];rfl
instance:Cn prog 10 (type_of% @sy):=⟨@sy⟩
end
section
attribute [local irreducible] Nat.sub
theorem ut (x:Nd) (hz:x.sz<=10000000):yq prog 191 [.nd x] (.b x.whole):=by
 refine an func191 U ntmps191 U (λe=>?_);refine S1 ?_;refine Sb ?_;refine Jb 2 [] x.whole U ?_ (Vr U);unfold Nd.whole;exact Yj
instance:Cn prog 191 (type_of% @ut):=⟨@ut⟩
theorem ou (x:Nd) (hz:x.sz<=10000000):yq prog 280 [.nd x] (.zZ [.i x.D7,.b x.AA]):=by
 have ho:x.AA=(x.whole&&decide (x.bytes.length<=8)):=by cases x;rfl
 have no:x.AA=false->yR [.i 0,.b false]=.zZ [.i x.D7,.b x.AA]:=λh=>by
  rw [h,show x.D7=0 from xC (by rw [h];decide)];rfl
 have RG:=bc x;have Md:x.whole=true->0<x.bytes.length:=λhw=>by
  cases x;exact kG (fl.1 hw).2.2.2.2
 refine an func280 U ntmps280 U (λe=>?_);refine S1 ?_;refine Sb ?_;refine Jb 14 [1] (!x.AA) U ?_ ?_
 ·rw [ho];refine V ?_;refine Bg U U (λ_=>?_) (λ_=>?_)<;>refine V ?_
  ·exact jb_
  ·exact⟨⟨⟨_,U,En.be (by simp_all;rw [<- decide_not];exact y7.2 xE)⟩,Fg⟩,Gt⟩
 refine Vi (λq=>?_) (λq=>?_)
 ·exact Vr (no (by simpa using q))
 have zt:x.AA=true:=by simpa using q
 have hv:x.D7=sV x.bytes:=xD zt;rw [zt,hv];rw [ho] at zt;simp only [xB,a_] at zt;have Rl:=Md zt.1;have e0:xF x.bytes 0=(x.bytes.getD 0 0).toNat:=rfl;have GF:=bn x.bytes 0;have hsb:=Wy (xF x.bytes 0) GF;have P_:(x.bytes.drop 1).length=x.bytes.length-1:=aM;refine V ?_;refine Js [1] [(4,.d (.v (.int .i64 (s8 (xF x.bytes 0)))))] U ?_ ?_
 ·refine Ci U (λc=>?_) (λc=>?_)
  ·have:s8 (xF x.bytes 0)=(xF x.bytes 0:Int)-256:=xC xE;exact m89
  ·have:s8 (xF x.bytes 0)=(xF x.bytes 0:Int):=xD xE;exact m89
 refine V ?_;refine Lk (γ:=Nat×Int) [1] (λ(i,w)=>i<=(x.bytes.drop 1).length/\w=s8 (xF x.bytes 0)*256 ^ i+DN ((x.bytes.drop 1).take i)) (λ(i,_)=>x.bytes.length-i) (λ(i,w)=>[(4,.d (.v (.int .i64 w))),(5,.d (.i ((i+1:Nat):Int)))]) (λ_=>[(0,.B1 33 (.nd x))]) (0,s8 (xF x.bytes 0)) ⟨by omega,by simp [DN]⟩ U ?_;rintro⟨i,w⟩ ⟨hi,hw⟩;have hbv:=iO ((x.bytes.drop 1).take i);rw [aS,Gp xE] at hbv;have hwb:=a3A hsb hbv;rw [<- hw] at hwb;refine Vi (λc=>?_) (λc=>?_)
 ·have hp8:=QE i xE;have Bx:i<(x.bytes.drop 1).length:=by omega
  have hns:=jM (x.bytes.drop 1) i Bx;rw [show(x.bytes.drop 1)[i]=x.bytes.getD (i+1) 0 by simp [aJ,show i+1<x.bytes.length by omega,SM]] at hns;have hb9:(x.bytes.getD (i+1) 0).toNat<256:=zA _;refine V ?_;exact⟨(i+1,w*256+(x.bytes.getD (i+1) 0).toNat),by dsimp only;omega,⟨by omega,by rw [hns,hw,F0,cP,bZ,Int.add_mul,Int.mul_assoc,G3];rfl⟩,Fg,Gt⟩
 ·have YA:i=(x.bytes.drop 1).length:=by omega
  refine Vr ?_;rw [hw,YA,xK,sV,P_];rfl
instance:Cn prog 280 (type_of% @ou):=⟨@ou⟩
theorem a5_ (s:yG) (hs:s.length<=1000000):yq prog 104 [.s s] (.nd (Ay s)):=by
 unfold Ay;exact an func104 U ntmps104 U (λe=>Y)
theorem a5' (l:LN):yq prog 108 [.AX l] (.nd (.mk 0 16 true [] l)):=by
 exact an func108 U ntmps108 U (λe=>Y)
end
theorem fI (l:LB):(xN l).1.sz<=l.length+1:=by
 have hz:NZ.sz<=1:=by decide
 unfold xN;split
 ·exact xJ hz xE
 ·split
  ·exact xJ hz xE
  ·rename_i x q h;split
   ·exact xJ hz xE
   ·have h1:=X0 (aB _) h;have h2:=iL _ _ _ _ _ _ h;simp only;omega
theorem rZ {n:Nd}(hz:n.sz<=1073741824):yq prog 49 [.nd n] (.zZ [.bs n.wr.1,.i n.wr.2]):=X5 n hz
theorem a2O {a c:Int}:Den (.st (UT.enc ⟨a,c⟩)) h (.agg #[.int .i64 a,.int .i64 c]):=(cA (h:=h)).2 ⟨[.int .i64 a,.int .i64 c],U,.c U (bh (h:=h)) (.c U (bh (h:=h)) .n)⟩
theorem uG {l:yG}:yq prog 24 [.bs l] (.zZ [.nd (xN l).1,.st (UT.enc ⟨(xN l).2.1,(xN l).2.2⟩)]):=.mk λh vs hT hd=>by
 obtain⟨v,rfl,h1⟩:=ll hd;obtain⟨a,cc,rfl,hR⟩:=AU.1 h1;exact(a1o hR hT).mono λv h' _ ⟨cs,e,r⟩=>⟨_,U,by rw [e];exact rE ((fw (h:=h')).2 ⟨cs,U,r⟩) a2O⟩
theorem Qi {l:yG}(hl:l.length<=16777216):yq prog 10 [.bs l] (.zZ [.nd (xN l).1,.st (UT.enc ⟨(xN l).2.1,(xN l).2.2⟩)]):=sy l hl
theorem oI {n:Nd}(hz:n.sz<=100000000):yq prog 164 [.nd n] (.zZ [.bs (n.put.getD []),.b n.put.isSome]):=mm n hz
theorem Qv {x:Nd}(hz:x.sz<=1125899906842624):yq prog 333 [.nd x] (.i x.rk):=.mk λh vs hT hd=>by
 obtain⟨v,rfl,h1⟩:=ll hd;obtain⟨cs,rfl,hR⟩:=fw.1 h1;exact(Zh hR hz).d (bh (h:=h))
theorem nV {l r:yG}:yq prog 126 [.bs l,.bs r] (.i (Go.Lib.compareBytes l r)):=tU l r
theorem Ql {s:yG}(hs:s.length<=10000000000):yq prog 150 [.s s] (.zZ [.bs ((Ai s).getD []),.i (if(Ai s).isSome then 0 else 20)]):=ot s hs
theorem Qk {l:yG}(hb:l.length<=100000000):yq prog 87 [.bs l] (.zZ [.s ((AK l).getD []),.i (if(AK l).isSome then 0 else 20)]):=oq l hb
theorem mc {s:yG}(hs:s.length<=1000000):yq prog 104 [.s s] (.nd (Ay s)):=a5_ s hs
theorem qv {l:LN}:yq prog 108 [.AX l] (.nd (.mk 0 16 true [] l)):=a5' l
instance:Cn prog 49 (type_of% @rZ):=⟨@rZ⟩
instance:Cn prog 24 (type_of% @uG):=⟨@uG⟩
instance:Cn prog 10 (type_of% @Qi):=⟨@Qi⟩
instance:Cn prog 164 (type_of% @oI):=⟨@oI⟩
instance:Cn prog 333 (type_of% @Qv):=⟨@Qv⟩
instance:Cn prog 126 (type_of% @nV):=⟨@nV⟩
instance:Cn prog 150 (type_of% @Ql):=⟨@Ql⟩
instance:Cn prog 87 (type_of% @Qk):=⟨@Qk⟩
instance:Cn prog 104 (type_of% @mc):=⟨@mc⟩
instance:Cn prog 108 (type_of% @qv):=⟨@qv⟩
section
open Go Go.RowKit Go.ChangeShapes Go.WideShapes Go.Lib Go.ChangeAt
theorem yq.tt {P:Program} [Tb P] {Fi:Nat}{ds:List D}{vs:LV}(c:yq P Fi ds (.bq true)) (hT:Tb.T P h) (hd:yT ds h vs):Pure P Fi vs h (.bool true) :=
 Pure.of (R:=λu h' Lo=>Lo=[]/\∃ d,d=D.bq true/\Den d h' u) (c.fn h vs hT hd) (λu h' Lo ⟨_,d,e,k⟩=>by subst e;exact cC.1 k)
theorem yT.n :yT [] h []:=by unfold yT;rfl
theorem yT.c {d:D}{r:List D}{v:Value}{t:LV}(h2:Den d h v) (h3:yT r h t):yT (d::r) h (v::t):=by unfold yT;exact⟨v,t,U,h2,h3⟩
theorem Q7 {α:Type}{R:DI α}{sz:Nat}{enc:α->List D}(hR:∀ {h cs y},R h cs y->IW enc h cs y) {h:Part}{cs:LV}{l:List α}(k:slR R sz h cs l):∃ v,cs=[v]/\v.oneCell'=true/\Den (.sl sz enc l) h v:=by
 obtain⟨a,c,rfl,r⟩:=k;exact⟨_,U,U,(iN (h:=h)).2 ⟨_,_,U,r.imp U (aP h) (λi p q cs h1 h2 h3=>by rw [h1] at h2;cases h2;exact hR h3)⟩⟩
section
variable {H:Type}{enc:TypeId×Value->H}{W:World}{base:Nat}{v:Value}{d:DataW H}{ps:List MemPlace}
theorem Xq (n:Nat):EJ prog n 22 (slR DJ 1) 1 (λl=>(l.map λ_=>1).sum+1):=by
 cases n with
 |zero=>intro H enc W cs x h;simp [DataW.trod] at h
 |succ n=>exact IH n
end
end
theorem my (n:Nd):(zG n).1.length<=41*n.bytes.length:=by
 unfold zG;split
 ·exact lE _
 ·simp
def Kw (k:Nd):At:=⟨(zG (kd (kd k 0) 0)).1,(kd (kd k 0) 1).tag,(kd (kd k 0) 1).bytes⟩
def Kx (k:Nd):Bool:=decide (k.cls=0)&&decide (k.tag=17)&&decide ((k.kids.length:Int)=1)&&k.put.isSome&&xR (kd k 0) 2 2&&(zG (kd (kd k 0) 0)).2&&decide ((kd (kd k 0) 1).cls=0)&&Ax (Kw k)
def nameOf (n:Nd):List At×Bool:=if xR n 0 16&&!decide (0<(n.bytes.length:Int))&&n.kids.all Kx then(n.kids.map Kw,true) else([],false)
theorem dQ (n:Nd):n.kids.length<=n.sz:=by
 have h:=bD n.kids;cases n;simp only [Nd.kids,Nd.sz] at h |-;omega
theorem p_ (n:Nd) (hz:n.sz<=1073741824):yq prog 175 [.nd n] (.zZ [.sl 3 At.enc (nameOf n).1,.b (nameOf n).2]):=by
 have kb:=bc n;unfold nameOf;refine an func175 U ntmps175 U (λe=>?_);refine W ?_;refine Bg U U (λh1=>?_) (λh1=>?_)
 ·exact Z
 refine W ?_;refine Ci U (λh2=>?_) (λh2=>?_)
 ·exact Z
 refine W ?_;refine Rn (kS 3 At.enc) 4 237 U U ?_;refine Lp (γ:=Nat) (λg=>g<=n.kids.length/\(n.kids.take g).all Kx=true) (λg=>n.kids.length+1-g)
  (λg=>[(1,.own 0 0),(4,.row 1),(21,.d (.AX n.kids)),(22,.d (.i (n.kids.length:Int))),(23,.d (.i (g:Int)))])
  (λg=>[(0,.B1 33 (.nd n)),(1,.row 237 (.sl 3 At.enc ((n.kids.take g).map Kw)))]) 0 ⟨by omega,U⟩ ?_ ?_ ?_
 ·exact y9
 ·exact y9
 rintro g ⟨hg,zX⟩;have k0:=b_ n g;have k1:=b_ (kd n g) 0;have k2:=b_ (kd (kd n g) 0) 0;have k3:=b_ (kd (kd n g) 0) 1;have kb2:=bc (kd (kd (kd n g) 0) 1);have kb3:=bc (kd (kd (kd n g) 0) 0);have ol:=my (kd (kd (kd n g) 0) 0);unfold kd at k1 k2 k3 kb2 kb3 ol;have bad:Kx (kd n g)=false->g<n.kids.length->(if(xR n 0 16&&!decide (0<(n.bytes.length:Int))&&n.kids.all Kx)=true then(n.kids.map Kw,true) else([],false))=(([]:List At),false):=λhb hl=>by
  have:n.kids.all Kx=false:=by
   rw [yM];refine⟨n.kids[g],ax hl,?_⟩;have e:kd n g=n.kids[g]:=by simp [kd,List.getD,hl]
   rw [<- e,hb];simp
  simp [this]
 refine W ?_;refine Ci U (λh3=>?_) (λh3=>?_)
 ·have hl:g<n.kids.length:=by omega
  refine W ?_;refine Bg U U (λh4=>?_) (λh4=>?_)
  ·exact m28
  refine W ?_;refine Bg U U (λh5=>?_) (λh5=>?_)
  ·exact m28
  refine W ?_;refine Bg U U (λh6=>?_) (λh6=>?_)
  ·exact m28
  refine W ?_;refine Bg U U (λh7=>?_) (λh7=>?_)
  ·exact m28
  refine W ?_;refine Ci U (λh8=>?_) (λh8=>?_)
  ·exact m28
  refine W ?_;refine Bg U U (λh9=>?_) (λh9=>?_)
  ·exact m28
  refine W ?_;refine Bg U U (λK2=>?_) (λK2=>?_)
  ·exact m28
  refine W ?_;refine Ci U (λVd=>?_) (λVd=>?_)
  ·refine W ?_;refine Rt U U ?_;rw [bad (by simp [Kx,Kw,kd];simp_all) hl];rfl
  have FH:(List.map Kw (List.take g n.kids)).length<=n.kids.length:=by rw [aq];exact xY ..
  have hkz:=dQ n;refine W ?_;have hk:Kx (kd n g)=true:=by simp [Kx,Kw,kd];simp_all
  have e1:(n.kids.take (g+1)).map Kw=(n.kids.take g).map Kw++[Kw (kd n g)]:=by
   rw [ai hl,y8];simp [kd,List.getD,hl]
  have e2:(n.kids.take (g+1)).all Kx=true:=by
   rw [ai hl,yr,zX];have e:kd n g=n.kids[g]:=by simp [kd,List.getD,hl]
   simp [<- e,hk]
  exact m43
 ·have CK:g=n.kids.length:=by omega
  subst CK;rw [xK] at zX;refine W ?_;refine Rt U U ?_;have E_:decide (0<(n.bytes.length:Int))=false:=ah h2;have hb:(xR n 0 16&&!decide (0<(n.bytes.length:Int))&&n.kids.all Kx)=true:=by rw [h1.1,E_,zX];rfl
  simp only [yR,xK,hb,if_true]
instance:Cn prog 175 (type_of% @p_):=⟨@p_⟩
theorem a1K {c:Nat}(hT:D_ h) (hk:A3 B9 5 h a c ks) (CP:Nd.yP ks<=1099511627776) :
 Fn prog 187 [.slice a ks.length c] h [] (Cb λv h' Lo=>∃ a' c' xs,v=.slice a' ks.length c'/\Lo=[.row a' c' 33 5 ks.length xs]/\yl B9 5 h' xs ks) :=
 ((Xo _ ks U CP).fn h [.slice a ks.length c] hT (a43 (dy.2 ⟨_,_,U,hk⟩))).mono λe h' Lo _ ⟨v,he,a',c',xs,e1,e2,e3,_⟩=>⟨v,he,a',c',xs,e1,e2,e3⟩
theorem pR {cl t:Int}{c:Nat}(hT:D_ h) (hk:A3 B9 5 h a c ks) (hz:Nd.yP ks<=1099511627776) :
 Fn prog 118 [.int .i64 cl,.int .i64 t,.slice a ks.length c] h [] (Cb λv h' Lo=>∃ a' c' xs,v=.agg #[.int .i64 cl,.int .i64 t,.bool true,.slice none 0 0,.slice a' ks.length c']/\Lo=[.row a' c' 33 5 ks.length xs]/\yl B9 5 h' xs ks):=by
 refine aQ func118 U ntmps118 U (λe he=>?_);refine ba [(0,_),(1,_),(2,_)] y9 ?_;refine Sr (bp iQ U (λb1=>?_));refine aj (Sr (Ru 3 U (cI PD U (a1K zL hk hz) HC U ?_)));rintro _ h2 Lo2 zH ⟨oa,oc,oxs,rfl,rfl,hC⟩
 replace hk:=hk.mono zH
 replace hT:=hT.mono zH
 refine aA (bi (cs:=[_,_,_,.slice none 0 0,_]) n8 U U) U ?_;refine aZ ci U U zW lx ly Dn ?_;exact Nk [6] U (dm ⟨_,[.row _ _ _ _ _ _],_,(bL U U ci zV Dn),.cons xy .nil,_,U,_,_,_,U,U,hC⟩)
theorem a1_ {c:Nat}(hT:D_ h) (hk:A3 B9 5 h a c ks) (hz:Nd.yP ks<=1099511627776) :
 Fn prog 218 [.slice a ks.length c] h [] (Cb λv h' Lo=>∃ a' c' xs,v=.agg #[.int .i64 0,.int .i64 16,.bool true,.slice none 0 0,.slice a' ks.length c']/\Lo=[.row a' c' 33 5 ks.length xs]/\yl B9 5 h' xs ks):=by
 refine aQ func218 U ntmps218 U (λe he=>?_);exact m20
theorem ZA {c:Nat}(hT:D_ h) (hk:A3 B9 5 h a c ks) (hz:Nd.yP ks<=1099511627776) :
 Fn prog 117 [.slice a ks.length c] h [] (Cb λv h' Lo=>∃ a' c' xs,v=.agg #[.int .i64 0,.int .i64 16,.bool true,.slice none 0 0,.slice a' ks.length c']/\Lo=[.row a' c' 33 5 ks.length xs]/\yl B9 5 h' xs ks):=by
 refine aQ func117 U ntmps117 U (λe he=>?_);exact m20
theorem dw:AF prog 230=some (some 6):=by kernel_rfl
theorem fm:Ig prog 227=some (230,6):=by kernel_rfl
def Eg:DI (LB×Nd):=λh cs p=>∃ a c ncs,cs=.slice a p.1.length c::ncs/\A3 DJ 1 h a c p.1/\B9 h ncs p.2
instance:CF Eg:=⟨λhle ⟨a,c,ncs,h1,h2,h3⟩=>⟨a,c,ncs,h1,h2.mono hle,h3.mono hle⟩,λ⟨a,c,ncs,h1,h2,h3⟩ u hu=>by
 subst h1;rcases zE.1 hu with rfl|hu
 ·rfl
 ·exact h3.a5C u hu⟩
abbrev oz:LB×Nd:=([],NZ)
theorem Eg.len {cs:LV}{p:LB×Nd}(r:Eg h cs p):cs.length=6:=by
 obtain⟨a,c,ncs,rfl,h2,h3⟩:=r;simp [h3.M']
theorem yl.swap {xs:LV}{l:List (LB×Nd)}{i j:Nat}(hC:yl Eg 6 h xs l) (hi:i<l.length) (hj:j<l.length) :
 yl Eg 6 h (over (over xs (i*6) ((xs.drop (j*6)).take 6)) (j*6) ((xs.drop (i*6)).take 6)) (PZ oz l i j):=by
 have r1:=(hC.at hi).1;have r2:=(hC.at hj).1;unfold PZ;rw [ri oz hi,ri oz hj];exact(hC.set hi r2.len r2).set (by simpa using hj) r1.len r1
theorem ZY:yH prog 189=true:=by kernel_rfl
theorem a4a:∀ (x y:LB),Go.Lib.compareBytes x y<0->¬ Go.Lib.compareBytes y x<0
 |[],[],h=>by simp [Go.Lib.compareBytes] at h
 |[],_::_,_=>by simp [Go.Lib.compareBytes]
 |_::_,[],h=>by simp [Go.Lib.compareBytes] at h
 |a::l,b::r,h=>by
  have ih:=a4a l r;simp only [Go.Lib.compareBytes,A8] at h |-
  (repeat' split at h)<;>(repeat' split)<;>first|omega|(exact ih h)|(simp;done)
theorem a4':∀ (x y w:LB),¬ Go.Lib.compareBytes y x<0->¬ Go.Lib.compareBytes w y<0->¬ Go.Lib.compareBytes w x<0
 |[],_,[],_,_=>by simp [Go.Lib.compareBytes]
 |[],_,_::_,_,_=>by simp [Go.Lib.compareBytes]
 |_::_,[],_,h,_=>by simp [Go.Lib.compareBytes] at h
 |_::_,_::_,[],_,h=>by simp [Go.Lib.compareBytes] at h
 |a::l,b::r,d::t,h1,h2=>by
  have ih:=a4' l r t;simp only [Go.Lib.compareBytes,A8] at h1 h2 |-
  split at h1
  ·simp at h1
  ·split at h2
   ·simp at h2
   ·rw [xC xE];split at h1
    ·rw [xD xE];simp
    ·split at h2
     ·rw [xD xE];simp
     ·rw [xC xE];exact ih h1 h2
theorem a4_:∀ (x y:LB),¬ Go.Lib.compareBytes x y<0->¬ Go.Lib.compareBytes y x<0->x=y
 |[],[],_,_=>rfl
 |[],_::_,h,_=>by simp [Go.Lib.compareBytes] at h
 |_::_,[],_,h=>by simp [Go.Lib.compareBytes] at h
 |a::l,b::r,h1,h2=>by
  have ih:=a4_ l r;simp only [Go.Lib.compareBytes,A8] at h1 h2;have e:a.toNat=b.toNat:=by
   split at h1
   ·simp at h1
   ·split at h2
    ·simp at h2
    ·omega
  rw [xC xE,xC xE] at h1 h2;rw [zh.1 e,ih h1 h2]
abbrev KK (p q:LB×Nd):Bool:=decide (Go.Lib.compareBytes p.1 q.1<0)
theorem kw:Ord KK:=⟨λx y w h1 h2=>ah (a4' x.1 y.1 w.1 (zz h1) (zz h2)),λx y h=>ah (a4a x.1 y.1 (xV h))⟩
section
variable {f:Fr}{n:yF}{x:Nat->yF}{S:AH}{h:Part}{L:LE}{ops:Array Oper}{rest:LR}{ty:TypeId}{pos:String}{af:Array Edge}{d F:Nat}{v:Value}
theorem JL.b1t {args:LV}{os:List Operand}{ts:Array TypeId}{fo:Operand}(hF:yH f.P F=true) (hf:ev S fo=some (.func (.func F) #[] #[])) (ha:FY S os=some args) (c:Pure f.P F args h v) (hd:Nat.blt d f.m=true) (k:JL f ops n x rest ((d,v)::S) h L) :
 JL f ops n x (⟨some d,.call { callee:=.value fo,args:=os.toArray,argTypes:=ts },ty,pos,af,none⟩::rest) S h L:=λa w s=>by
 refine eR hF (by simp [Region.wanted]) ?_ c .nil s U hd (λ_ _ ⟨_,hh,_⟩=>by cases hh) (λ_ _ _ _ ⟨_,hh,_⟩=>by cases hh) (λu h' Lo _ ⟨_,hh,h1,h2,h3⟩=>by cases hh;subst h1 h2 h3;exact k);exact m102
theorem JL.Su {j dj:Nat}{b:Bool}{args:LV}{os:List Operand}{ts:Array TypeId}{fo:Operand}(hj:(ops[j]?).bind (·.dst)=some dj) (hs:look S dj=some (.bool b)) (hF:yH f.P F=true) (hf:ev S fo=some (.func (.func F) #[] #[])) (ha:FY S os=some args) (c:Pure f.P F args h v) (hd:Nat.blt d f.m=true) (k:JL f ops n x rest ((d,v)::S) h L) :
 JL f ops n x (⟨some d,.call { callee:=.value fo,args:=os.toArray,argTypes:=ts },ty,pos,af,some (j,b)⟩::rest) S h L:=λa w s=>by
 refine eR hF (by simp [Region.wanted,cZ s hj hs]) ?_ c .nil s U hd (λ_ _ ⟨_,hh,_⟩=>by cases hh) (λ_ _ _ _ ⟨_,hh,_⟩=>by cases hh) (λu h' Lo _ ⟨_,hh,h1,h2,h3⟩=>by cases hh;subst h1 h2 h3;exact k);exact m102
end
theorem qm {cs cs2:LV}{p q:LB×Nd}(r1:Eg h cs p) (r2:Eg h cs2 q):Pure prog 189 [.agg cs.toArray,.agg cs2.toArray] h (.int .i64 (Go.Lib.compareBytes p.1 q.1)):=by
 obtain⟨a,c,ns,rfl,ha,-⟩:=r1;obtain⟨b,d,ms,rfl,hb,-⟩:=r2;obtain⟨x,n⟩:=p;obtain⟨y,m⟩:=q;refine Pure.ofV ?_;refine aQ func189 U ntmps189 U (λe he=>?_);refine ba [(0,_),(1,_)] y9 ?_;refine Sr (JL.box U U U (λb1=>?_));refine JL.box U U U (λb2=>?_);refine Ru 1 U (aj (Sr (Ru 1 U (aA (aG eD U zV U) U ?_))));refine Ru 1 U (aA (aG eD U zV U) U ?_);refine cj w9 U (fy zL zL) U ?_;exact Ru 1 U (Nk [4] U (J.Tp (aW U U) U))
theorem pJ {r r2:List (LB×Nd)}{a i j:Nat}(ha:a<j) (hj:j<=i) (hi:i<r2.length) (h:∀ k,gg oz r2 k=gg oz r (if k=j then i else if j<k/\k<=i then k-1 else k)):∀ k,gg oz (PZ oz r2 j (j-1)) k=gg oz r (if k=j-1 then i else if j-1<k/\k<=i then k-1 else k):=λk=>by
 rw [a6w oz xE xE];by_cases h1:k=j-1
 ·rw [xD h1,xD h1,h,xD rfl]
 ·rw [xC h1,xC h1];by_cases h2:k=j
  ·rw [xD h2,h,xC xE,xC xE,xD xE,h2]
  ·rw [xC h2,h,xC h2];by_cases h3:j<k/\k<=i
   ·rw [xD h3,xD xE]
   ·rw [xC h3,xC xE]
theorem TU {g n c a b:Nat}{xs:LV}{l:List (LB×Nd)}(hC:yl Eg 6 h xs l) (hn:n=l.length) (hl:l.length<=1000000) (h1:a<=b) (h2:b<=l.length) :
 Fn prog 322 [.slice (some ⟨g,0,none⟩) n c,.int .i64 a,.int .i64 b,.func (.func 189) #[] #[]] h [.row (some ⟨g,0,none⟩) c 230 6 n xs]
  (Cb λv h' Lo=>∃ Kq l',v=.tuple #[]/\Lo=[.row (some ⟨g,0,none⟩) c 230 6 n Kq]/\yl Eg 6 h' Kq l'/\Sw oz a b l l'/\So oz KK l' a b):=by
 refine aQ func322 U ntmps322 U (λe he=>?_);refine ba [(0,_),(1,_),(2,_),(3,_)] y9 ?_;have AD:=aP h;refine Sr (Ru 1 U (aA Fc U ?_));refine Ru 1 U (aj (aV (bU (λt_ S_ h_ L_=>∃ (p:Part) (i:Nat) (ys:LV) (r:List (LB×Nd)),t_=b+1-i/\S_=[(0,.slice (some ⟨g,0,none⟩) n c),(1,.int .i64 a),(2,.int .i64 b),(3,.func (.func 189) #[] #[]),(8,.int .i64 i)]/\p=h_/\L_=[.row (some ⟨g,0,none⟩) c 230 6 n ys]/\(h.le p/\(a+1<=i/\i<=b+1)/\yl Eg 6 p ys r/\Sw oz a b l r/\So oz KK r a i)) ⟨_,_,?_,⟨_,a+1,xs,l,U,U,U,U,⟨AD,by omega,hC,.refl _,So.one oz xE⟩⟩⟩ ?_)))
 ·exact Du
 rintro _ _ _ _ ⟨p,i,ys,r,rfl,rfl,rfl,rfl,AD,hia,hCr,hS,hO⟩;have hrl:=hS.len;refine aK (Sr (Ru 3 U (aj (Cs U (λBy=>?_) λBy=>?_))))
 ·refine aO (aK (aV (Sr (Ru 2 U (aj (aV (bU (λt_ S_ h_ L_=>∃ (p2:Part) (j:Nat) (zs:LV) (q:List (LB×Nd)),t_=j+1/\S_=[(0,.slice (some ⟨g,0,none⟩) n c),(1,.int .i64 a),(2,.int .i64 b),(3,.func (.func 189) #[] #[]),(8,.int .i64 i),(9,.int .i64 j)]/\p2=h_/\L_=[.row (some ⟨g,0,none⟩) c 230 6 n zs]/\(h.le p2/\(a<=j/\j<=i)/\yl Eg 6 p2 zs q/\Sw oz a b l q/\(∀ k,gg oz q k=gg oz r (if k=j then i else if j<k/\k<=i then k-1 else k))/\(j=i\/KK (gg oz r i) (gg oz r j)=true))) ⟨_,_,?_,⟨_,i,ys,r,U,U,U,U,⟨by assumption,by omega,by assumption,hS,λk=>by (repeat' split)<;>first|rfl|(subst_vars;rfl)|omega,.inl rfl⟩⟩⟩ ?_)))))))
  ·exact IE
  rintro _ _ _ _ ⟨p2,j,zs,q,rfl,rfl,rfl,rfl,AD,hja,hCq,hSq,hE,G4⟩;have hql:=hSq.len;have V':j<q.length:=xE;have d1:=hCq.at V';refine aK (aK (J.held ([]) 17 dY U (λCR=>?_)));refine Tk 0 U (aY U) ?_;refine Tk 1 U (aY U) ?_;refine Tk 2 U (xG.gtr U U) ?_;refine Tk 3 U (aY U) ?_;refine Bh 21 U (λBO=>?_) λBO=>?_
  ·have Rz:j-1<q.length:=xE;have d2:=hCq.at Rz;have e1:q[j]=gg oz r i:=(by rw [<- ri oz V',hE,xD rfl]);have e2:q[j-1]=gg oz r (j-1):=(by rw [<- ri oz Rz,hE,xC xE,xC xE]);refine TG 4 U U U (aY U) ?_;refine TG 5 U U U (aY U) ?_;refine TG 6 U U U (aY U) ?_;refine TG 7 U U U (cv (m:=j) fm U U xE xE) ?_;refine TG 9 U U U (aY U) ?_;refine TG 10 U U U (aY U) ?_;refine TG 11 U U U GP ?_;refine TG 12 U U U (cv (m:=j-1) fm U U xE xE) ?_;refine JH.PL 8 13 cq U U ?_ ?_
   ·unfold One;refine bz U U  (dK dw U zV d1.2) U ?_;refine aj ⟨(Dr CR),?_⟩;refine Ta 13 U ?_;unfold One;refine bz U U  (dK dw U zV d2.2) U ?_;refine aj ⟨(Dr CR),?_⟩;refine Ta 14 U ?_;unfold One;refine JL.Su U U ZY U U (qm d1.1 d2.1) U ?_;refine aj ⟨(Dr CR),?_⟩;refine TG 15 U U U (xG.lss U U) ?_;refine Tk 16 U (xG.JO U U) ?_;refine dJ cq ?_;refine Cs U (λJ'=>?_) λJ'=>?_
    ·have yJ:KK (gg oz r i) (gg oz r (j-1))=true:=(by rw [<- e1,<- e2];exact ae J');exact m11
    have Ld:j=a\/KK (gg oz r i) (gg oz r (j-1))=false:=(by first|exact .inl xE|exact .inr (by rw [<- e1,<- e2];exact ah J'));exact m86
   unfold One;refine bz U U  (dK dw U zV d2.2) U ?_;refine aj ⟨(Dr CR),?_⟩;refine Ta 8 U ?_;unfold One;refine bz U U  (dK dw U zV d1.2) U ?_;refine aj ⟨(Dr CR),?_⟩;refine Ta 14 U ?_;unfold One;refine JL.Su U U ZY U U (qm d1.1 d2.1) U ?_;refine aj ⟨(Dr CR),?_⟩;refine TG 15 U U U (xG.lss U U) ?_;refine Tk 16 U (xG.JO U U) ?_;refine dJ cq ?_;refine Cs U (λIq=>?_) λIq=>?_
   ·have yJ:KK (gg oz r i) (gg oz r (j-1))=true:=(by rw [<- e1,<- e2];exact ae Iq);exact m11
   have Ld:j=a\/KK (gg oz r i) (gg oz r (j-1))=false:=(by first|exact .inl xE|exact .inr (by rw [<- e1,<- e2];exact ah Iq));exact m86
  have Ld:j=a\/KK (gg oz r i) (gg oz r (j-1))=false:=.inl xE;refine Ts 4 U U U ?_;refine Ts 5 U U U ?_;refine Ts 6 U U U ?_;refine Ts 7 U U U ?_;refine Ts 9 U U U ?_;refine Ts 10 U U U ?_;refine Ts 11 U U U ?_;refine Ts 12 U U U ?_;refine JH.PL 8 13 cq U U ?_ ?_
  ·unfold One;refine JL.skip U U U ?_;refine aj ⟨(Dr CR),?_⟩;refine Ta 13 U ?_;exact m33
  unfold One;refine JL.skip U U U ?_;refine aj ⟨(Dr CR),?_⟩;refine Ta 8 U ?_;exact m33
 exact bJ (⟨_,[_],_,(df U),.cons .here .nil,_,U,_,_,U,U,hCr,hS,hO.sub oz (aB _) xE⟩)
theorem ZS:yH prog 322=true:=by kernel_rfl
theorem T_ {g n c:Nat}{xs:LV}{l:List (LB×Nd)}(hC:yl Eg 6 h xs l) (hn:n=l.length) (hl:l.length<=19) :
 Fn prog 269 [.slice (some ⟨g,0,none⟩) n c,.int .i64 n,.func (.func 189) #[] #[]] h [.row (some ⟨g,0,none⟩) c 230 6 n xs]
  (Cb λv h' Lo=>∃ Kq l',v=.tuple #[]/\Lo=[.row (some ⟨g,0,none⟩) c 230 6 n Kq]/\yl Eg 6 h' Kq l'/\Sw oz 0 n l l'/\So oz KK l' 0 n):=by
 refine aQ func269 U ntmps269 U (λe he=>?_);refine ba [(0,_),(1,_),(2,_)] y9 ?_;have AD:=aP h;refine Sr (Ru 1 U (aj (Sr (Ru 3 U (aj (aK (aV (bU (λt_ S_ h_ L_=>∃ (p:Part),t_=0+1/\S_=[(0,.slice (some ⟨g,0,none⟩) n c),(1,.int .i64 n),(2,.func (.func 189) #[] #[]),(6,.int .i64 20),(7,.int .i64 0),(8,.int .i64 20)]/\p=h_/\L_=[.row (some ⟨g,0,none⟩) c 230 6 n xs]/\(h.le p/\yl Eg 6 p xs l)) ⟨_,_,?_,⟨_,U,U,U,U,⟨AD,hC⟩⟩⟩ ?_))))))))
 ·exact Du
 rintro _ _ _ _ ⟨p,rfl,rfl,rfl,rfl,AD,hC⟩;refine aK (Sr (Ru 3 U (aj (Cs U (λBy=>?_) λBy=>?_))))
 ·exfalso;omega
 refine bJ (Sr (Ru 4 U (cI ZS U (TU (a:=0) (b:=n) hC hn xE xE xE) HC U ?_)));rintro _ h2 Lo2 zH ⟨zs,w,rfl,rfl,hCw,hSw,hOw⟩
 replace AD:=AD.mono zH
 replace hC:=hC.mono zH
 refine Nk [0,1,2,6,7,8] U (aV (bU (λt_ S_ h_ L_=>∃ (p:Part),t_=0+1/\S_=[(0,.slice (some ⟨g,0,none⟩) n c),(1,.int .i64 n),(2,.func (.func 189) #[] #[]),(6,.int .i64 20)]/\p=h_/\L_=[.row (some ⟨g,0,none⟩) c 230 6 n zs]/\(h.le p/\yl Eg 6 p zs w)) ⟨_,_,?_,⟨_,U,U,U,U,⟨by assumption,by assumption⟩⟩⟩ ?_))
 ·exact Du
 rintro _ _ _ _ ⟨p,rfl,rfl,rfl,rfl,AD,hCw⟩;refine aK (Sr (Ru 3 U (aj (Cs U (λDv=>?_) λDv=>?_))))
 ·exfalso;omega
 exact bJ (⟨_,[_],_,(df U),.cons .here .nil,_,U,_,_,U,U,hCw,hSw,hOw⟩)
theorem ZV:yH prog 269=true:=by kernel_rfl
theorem a4Q {g n c:Nat}{xs:LV}{l:List (LB×Nd)}(hC:yl Eg 6 h xs l) (hn:n=l.length) (hl:l.length<=19) :
 Fn prog 188 [.slice (some ⟨g,0,none⟩) n c,.func (.func 189) #[] #[]] h [.row (some ⟨g,0,none⟩) c 230 6 n xs]
  (Cb λv h' Lo=>∃ Kq l',v=.tuple #[]/\Lo=[.row (some ⟨g,0,none⟩) c 230 6 n Kq]/\yl Eg 6 h' Kq l'/\Sw oz 0 n l l'/\So oz KK l' 0 n):=by
 refine aQ func188 U ntmps188 U (λe he=>?_);refine ba [(0,_),(1,_)] y9 ?_;have AD:=aP h;refine Rg (Ru 4 U (cI ZV U (T_ hC hn hl) HC U ?_));rintro _ h1 Lo1 Gd ⟨zs,w,rfl,rfl,hCw,hSw,hOw⟩
 replace AD:=AD.mono Gd
 exact aj (⟨_,[_],_,(df U),.cons .here .nil,_,U,_,w,U,U,hCw,hSw,hOw⟩)
def Vm (l:List (LB×Nd)) (ks:LN):Prop:=l.map (·.2)=ks/\∀ p∈l,p.2.put=some p.1
theorem Vm.len {l:List (LB×Nd)}(h:Vm l ks):l.length=ks.length:=by rw [<- h.1,aq]
theorem Vm.snoc {l:List (LB×Nd)}{x:Nd}{b:LB}(h:Vm l ks) (hx:x.put=some b):Vm (l++[(b,x)]) (ks++[x]) :=
 ⟨by rw [y8,h.1];rfl,λp hp=>by
  rcases Bo.1 hp with hp|hp
  ·exact h.2 p hp
  ·rw [zS] at hp;subst hp;exact hx⟩
theorem a0R {l:List (LB×Nd)}{n:Nat}(hn:n=l.length) (h:So oz KK l 0 n):List.Pairwise (λp q=>KK q p=false) l:=by
 rw [HE];intro i j hi hj hij;have:=h i j (yQ _) hij xE;rwa [ri oz hi,ri oz hj] at this
theorem wV {x y:Nd}{b:LB}(hx:x.put=some b) (hy:y.put=some b) (hb:b.length<4294967296):x=y:=by
 have a:=oE (max x.rk y.rk) x b b 0 b.length hx (Nat.le_max_left ..) hb (by simp) xE;have c:=oE (max x.rk y.rk) y b b 0 b.length hy (Nat.le_max_right ..) hb (by simp) xE;rw [a] at c;injection c with c;injection c
theorem Wf {l l1 l2:List (LB×Nd)}(hp:∀ p∈l,p.2.put=some p.1) (hb:∀ p∈l,p.1.length<4294967296) (h1:l1.Perm l) (h2:l2.Perm l) (s1:List.Pairwise (λp q=>KK q p=false) l1) (s2:List.Pairwise (λp q=>KK q p=false) l2):l1=l2:=by
 refine List.Perm.eq_of_pairwise (λp q hp1 hq2 a b=>?_) s1 s2 (h1.trans h2.symm);have Le:=h1.mem_iff.1 hp1;have hql:=h2.mem_iff.1 hq2;have e:=a4_ p.1 q.1 (zz b) (zz a);have hq:=hp q hql;rw [<- e] at hq;have:=wV (hp p Le) hq (hb p Le);cases p;cases q;simp only at e this;rw [e,this]
theorem a0d:Mq prog 227=some (230,6,96):=by kernel_rfl
theorem ZZ:yH prog 188=true:=by kernel_rfl
theorem a9v:yH prog 79=true:=by kernel_rfl
theorem a5w:OO prog 132=some ([.int .i64 0,.bool false],[(0,1),(1,1)]):=by kernel_rfl
theorem a5v:OO prog 230=some ([.slice none 0 0,.int .i64 0,.int .i64 0,.bool false,.slice none 0 0,.slice none 0 0],[(0,1),(1,5)]):=by kernel_rfl
theorem a4m:CH prog 230=some [.slice none 0 0,.int .i64 0,.int .i64 0,.bool false,.slice none 0 0,.slice none 0 0]:=by kernel_rfl
theorem a8z {w:LV}(h:w.length=5):∃ a b c d e,w=[a,b,c,d,e]:=by
 match w,h with
 |[a,b,c,d,e],_=>exact⟨a,b,c,d,e,U⟩
theorem Eg.a0g {cs:LV}{p:LB×Nd}(r:Eg h cs p):cs.all (·.oneCell')=true:=xH.2 (CF.one r)
theorem Eg.nd {cs:LV}{p:LB×Nd}(r:Eg h cs p):B9 h ((cs.drop 1).take 5) p.2:=by
 obtain⟨a,c,ns,rfl,-,hn⟩:=r;rw [AZ,C3,aD (by rw [hn.M'];decide)];exact hn
theorem a16 {i:Nat}(hi:i<ks.length):ks.take (i+1)=ks.take i++[ks[i]]:=ai hi
def Hr (ks:LN):Prop:=∃ x∈ks,x.put=none
def a7z (ks:LN):Value->Part->Prop:=λv h'=>(Hr ks/\∃ cs,v=.tuple #[.agg (List.toArray cs),.int .i64 34]/\B9 h' cs NZ) \/
 (∃ cs l0 L,v=.tuple #[.agg (List.toArray cs),.int .i64 0]/\Vm l0 ks/\L.Perm l0/\List.Pairwise (λp q=>KK q p=false) L/\B9 h' cs (.mk 0 17 true [] (L.map (·.2))))
theorem Xb {c:Nat}(hk:A3 B9 5 h a c ks) (hT:D_ h) (h0:0<ks.length) (hlen:ks.length<=19) (CP:Nd.yP ks<=20000000):F1 prog 86 [.slice a ks.length c] h (a7z ks):=by
 refine aQ func86 U ntmps86 U (λe he=>?_);refine ba [(0,_)] y9 ?_;have AD:=aP h;refine Sr (bp iQ U (λb1=>?_));refine Ru 1 U (aj (Sr (Ru 1 U (aj (aK (Sr (Ru 1 U (bS PD U (QH hk hT xE) U ?_))))))));rintro _ h2 zH ⟨oa,oc,rfl,hO⟩
 replace hk:=hk.mono zH
 replace hT:=hT.mono zH
 replace AD:=AD.mono zH
 refine Ru 1 U (dh 230 6 ?_);refine Ru 1 U (aj (aV (bU (λt_ S_ h_ L_=>∃ (p:Part) (i:Nat) (la:OA) (lc:Nat) (ys:LV) (l:List (LB×Nd)),t_=ks.length-i/\S_=[(2,.pointer (some ⟨b1,0,none⟩)),(4,.slice la l.length lc),(13,.slice oa ks.length oc),(14,.int .i64 ks.length),(15,.int .i64 i)]/\p=h_/\L_=[.row la lc 230 6 l.length ys,.yY b1 33 [.int .i64 0,.int .i64 0,.bool false,.slice none 0 0,.slice none 0 0]]/\(h.le p/\D_ p/\A3 B9 5 p oa oc ks/\i<=ks.length/\yl Eg 6 p ys l/\Vm l (ks.take i))) ⟨_,_,?_,⟨_,0,none,0,[],[],U,U,U,U,⟨AD,hT,hO,by omega,bQ,⟨by simp,λp hp=>by cases hp⟩⟩⟩⟩ ?_)))
 ·exact Du
 rintro _ _ _ _ ⟨p,i,la,lc,ys,l,rfl,rfl,rfl,rfl,AD,hT,hO,hi,hC,hP⟩;refine Sr (Ru 1 U (aj (aK (Cs U (λDv=>?_) λDv=>?_))))
 ·have Bx:i<ks.length:=xE;have hz1:(ks[i]'Bx).sz<=20000000:=xJ (bX (ax Bx)) CP;have hr1:=Nd.HN _ (ks[i]'Bx) (aB _);have Le:l.length=i:=(by rw [hP.len,aS];omega);refine aO (aK (aV (Sr (cX (aX a3v U U n7 zL U xE) U ?_))));rintro _ ⟨b4,o4,hi4,rfl,hE4⟩;refine cX (AB.Na ci U zL) U ?_;rintro _ ⟨w,rfl,hNw⟩;obtain⟨u0,u1,u2,u3,u4,rfl⟩:=a8z hNw.M';refine bp iQ U (λb6=>?_);refine aZ ci U U zW lx ly Dn ?_;refine aj (Sr (aA (bi (cs:=[.int .i64 0,.bool false]) a5w U U) U ?_));refine JL.box U U U (λb7=>?_);refine Ru 1 U (aj (Sr (Ru 1 U (aA (bK ci U zV Dn) U ?_))));refine cI a9v U (a5p _ (ks[i]'xE) _ _ _ _ _ (aB _) hNw hT xE xE xE) HC U ?_;rintro _ h8 Lo8 HW ⟨kb,ka,kc,kd,b25,rfl,hkS,rfl,hkf,hkt⟩
  replace AD:=AD.mono HW
  replace hT:=hT.mono HW
  replace hO:=hO.mono HW
  replace hC:=hC.mono HW
  replace hNw:=hNw.mono HW
  refine Ru 1 U (aj (aK (Sr (Ru 3 U (aA (aG a9F U zV U) U ?_)))));refine aj (Cs U (λU6=>?_) λU6=>?_)
  ·refine Sr (aA (bi (cs:=[.int .i64 0,.int .i64 0,.bool false,.slice none 0 0,.slice none 0 0]) n8 U U) U ?_);refine aZ ci U U zW lx ly Dn ?_;exact Ru 1 U (aj (bM (B7.PB U U ci zV Dn U) (.inl ⟨⟨_,ax _,hkf U6⟩,_,U,B9.of bA bA⟩)))
  have hkp:=(hkt (by simpa using U6)).1;refine aO (Rg (Ru 2 U (aA (bK ci U zV Dn) U ?_)));refine aA (bi (cs:=[_,_,_,_,_,_]) a5v U U) U ?_;refine JL.Y_ a0d U eE U U (λb10=>?_);refine di a0d U U zL U zW zW U ((⟨_,_,_,U,hkS,hNw⟩:Eg _ _ (kb,ks[i]'xE))) LD U U (λa11 c11 b1W b2E b2v=>?_);refine Ru 1 U (aj (Rg (aA Fc U ?_)));refine Ru 1 U (JL.Hx [.row _ _ _ _ _ _,.yY b1 _ _] HC ?_);refine aj (⟨_,?_,_,?_,⟨_,i+1,_,_,_,l++[(kb,ks[i]'xE)],U,U,U,U,⟨by assumption,by assumption,by assumption,by omega,by assumption,by rw [a16 xE];exact hP.snoc hkp⟩⟩⟩)
  ·omega
  exact Du
 have YA:i=ks.length:=xE;have Le:l.length=i:=(by rw [hP.len,aS];omega);rw [YA,xK] at hP;refine bJ (Kp [2,4] U (Sr ?_));refine JL.WJ (aC ..) xE (λg hg=>?_);subst hg;refine Ru 1 U (cI ZZ U (a4Q hC U xE) HC U ?_);rintro _ h12 b2L Rr ⟨zs,w,rfl,rfl,hCw,hSw,hOw⟩
 replace AD:=AD.mono Rr
 replace hT:=hT.mono Rr
 replace hO:=hO.mono Rr
 replace hC:=hC.mono Rr
 have hwl:w.length=l.length:=hSw.len;refine JL.LZ (R:=Eg) (l:=w) zW hCw hwl.symm xE (λhp a6i hSr=>?_);replace AD:=AD.mono a6i;replace hT:=hT.mono a6i;rw [<- hwl];refine aj (Sr (aA (bi (cs:=[.int .i64 0,_,_,.slice none 0 0,.slice none 0 0]) n8 U U) U ?_));refine bp iQ U (λb13=>?_);refine aZ ci U U zW lx ly Dn ?_;refine aj (aK (Sr ?_));refine dh 33 5 ?_;refine JL.Hx [.yY b13 _ _,.row none 0 33 5 0 [],.yY b1 _ _] HC ?_;refine Ru 3 U (aj (aV (bU (λt_ S_ h_ L_=>∃ (p:Part) (j:Nat) (ka:OA) (kc:Nat) (ys:LV),t_=w.length-j/\S_=[(2,.pointer (some ⟨b1,0,none⟩)),(9,.pointer (some ⟨b13,0,none⟩)),(39,.slice (some ⟨g,0,none⟩) w.length lc),(40,.int .i64 w.length),(41,.int .i64 j)]/\p=h_/\L_=[.yY b13 33 [.int .i64 0,.int .i64 17,.bool true,.slice none 0 0,.slice ka ((w.take j).map (·.2)).length kc],.row ka kc 33 5 ((w.take j).map (·.2)).length ys,.yY b1 33 [.int .i64 0,.int .i64 0,.bool false,.slice none 0 0,.slice none 0 0]]/\(h.le p/\A3 Eg 6 p (some ⟨g,0,none⟩) lc w/\j<=w.length/\yl B9 5 p ys ((w.take j).map (·.2)))) ⟨_,_,?_,⟨_,0,none,0,[],U,U,U,U,⟨AD,hSr,by omega,bQ⟩⟩⟩ ?_)))
 ·exact Du
 rintro _ _ _ _ ⟨p,j,ka,kc,ys,rfl,rfl,rfl,rfl,AD,hSr,hj,hCk⟩;refine Sr (Ru 1 U (aj (aK (Cs U (λKS=>?_) λKS=>?_))))
 ·have hjl:j<w.length:=xE;have FH:(List.map (λx=>x.2) (List.take j w)).length=j:=(by rw [aq,aS];omega);have DW:List.map (λx=>x.2) (List.take j w)++[(w[j]'hjl).2]=List.map (λx=>x.2) (List.take (j+1) w):=(by rw [ai hjl,y8,yy,List.map_nil]);refine aO (aK (aV (Sr (cX (aX fm U U n7 zL U xE) U ?_))));rintro _ ⟨b15,o15,b0R,rfl,b1g⟩;refine cX (AB.Na dw U zL) U ?_;rintro _ ⟨w6,rfl,YP⟩;have hNn:=YP.nd;refine bp a4m U (λb17=>?_);refine aZ dw U U zW YP.a0g U YP.len ?_;refine aj (Rg (Ru 1 U (aA (aG l7 U zV U) U ?_)));refine Ru 1 U (aA ((xG.OP (o:=1) (sz:=5) (cs:=w6) ci U zV (by rw [YP.len];decide))) U ?_);refine JL.Y_ rY U Dn U U (λb19=>?_);refine di rY U U zL U zW zW Dn (YP.nd) LD U U (λa20 c20 b1S b2B b2r=>?_);refine Ru 1 U (bj l7 U U U zW iR ?_);refine aj (Rg (aA Fc U ?_));refine Ru 1 U ?_;simp only [DW] at *;refine JL.Hx [.yY b13 _ _,.row _ _ _ _ _ _,.yY b1 _ _] HC ?_;refine aj (⟨_,?_,_,?_,⟨_,j+1,_,_,_,U,U,U,U,⟨by assumption,by assumption,by omega,by assumption⟩⟩⟩)
  ·omega
  exact Du
 have hjw:j=w.length:=xE;subst hjw;rw [xK] at hCk |-
 refine bJ (Kp [2,9] U (Sr ?_));have FH:(List.map (λx=>x.2) w).length=w.length:=aq ..;refine JL.LZ (R:=B9) (l:=w.map (λx=>x.2)) zW hCk U xE (λMe b1L hS2=>?_);refine aA (bK ci U zV Dn) U ?_;refine aZ ci U U zW lx ly Dn ?_;exact Ru 1 U (aj (bM (B7.PB U U ci zV Dn U) (.inr ⟨_,l,w,U,hP,hSw.perm oz,a0R hwl.symm hOw,B9.of bA hS2⟩)))
def bsR:DI LB:=λh cs l=>∃ a c,cs=[.slice a l.length c]/\A3 DJ 1 h a c l
instance:CF bsR:=⟨λhle ⟨a,c,e,r⟩=>⟨a,c,e,r.mono hle⟩,λ⟨a,c,e,_⟩ u hu=>by subst e;simp at hu;subst hu;rfl⟩
theorem a2r :Pure prog 322 [.slice none 0 0,.int .i64 0,.int .i64 0,.func (.func 189) #[] #[]] h (.tuple #[]):=by
 have hx:(0:Nat)=0:=rfl;refine Pure.ofV ?_;refine aQ func322 U ntmps322 U (λe he=>?_);refine ba [(0,_),(1,_),(2,_),(3,_)] y9 ?_;refine Sr (Ru 1 U (aA Fc U ?_));refine Ru 1 U (aj (aV (bU (λt_ S_ h_ L_=>∃ (i:Nat),t_=0-i/\S_=[(0,.slice none 0 0),(1,.int .i64 0),(2,.int .i64 0),(3,.func (.func 189) #[] #[]),(8,.int .i64 1)]/\h=h_/\L_=[]/\(True)) ⟨_,_,?_,⟨0,U,U,U,U,trivial⟩⟩ ?_)))
 ·exact Du
 rintro _ _ _ _ ⟨i,rfl,rfl,rfl,rfl,-⟩;refine aK (Sr (Ru 3 U (aj (Cs U (λBy=>?_) λBy=>?_))))
 ·exfalso;omega
 exact bJ (⟨_,[],_,(df U),.nil,_,U,U⟩)
theorem wF :Pure prog 269 [.slice none 0 0,.int .i64 0,.func (.func 189) #[] #[]] h (.tuple #[]):=by
 refine Pure.ofV ?_;refine aQ func269 U ntmps269 U (λe he=>?_);refine ba [(0,_),(1,_),(2,_)] y9 ?_;refine Sr (Ru 1 U (aj (Sr (Ru 3 U (aj (aK (aV (bU (λt_ S_ h_ L_=>∃ (i:Nat),t_=0-i/\S_=[(0,.slice none 0 0),(1,.int .i64 0),(2,.func (.func 189) #[] #[]),(6,.int .i64 20),(7,.int .i64 0),(8,.int .i64 20)]/\h=h_/\L_=[]/\(True)) ⟨_,_,?_,⟨0,U,U,U,U,trivial⟩⟩ ?_))))))))
 ·exact Du
 rintro _ _ _ _ ⟨i,rfl,rfl,rfl,rfl,-⟩;refine aK (Sr (Ru 3 U (aj (Cs U (λBy=>?_) λBy=>?_))))
 ·exfalso;omega
 refine bJ (Sr (Ru 4 U (cj ZS U (a2r) U ?_)));refine Nk [0,1,2,6,7,8] U (aV (bU (λt_ S_ h_ L_=>∃ (i:Nat),t_=0-i/\S_=[(0,.slice none 0 0),(1,.int .i64 0),(2,.func (.func 189) #[] #[]),(6,.int .i64 20)]/\h=h_/\L_=[]/\(True)) ⟨_,_,?_,⟨0,U,U,U,U,trivial⟩⟩ ?_))
 ·exact Du
 rintro _ _ _ _ ⟨i,rfl,rfl,rfl,rfl,-⟩;refine aK (Sr (Ru 3 U (aj (Cs U (λDv=>?_) λDv=>?_))))
 ·exfalso;omega
 exact bJ (⟨_,[],_,(df U),.nil,_,U,U⟩)
theorem a0Q :Pure prog 188 [.slice none 0 0,.func (.func 189) #[] #[]] h (.tuple #[]):=by
 refine Pure.ofV ?_;refine aQ func188 U ntmps188 U (λe he=>?_);refine ba [(0,_),(1,_)] y9 ?_;refine Rg (Ru 4 U (cj ZV U (wF) U ?_));exact aj (⟨_,[],_,(df U),.nil,_,U,U⟩)
theorem Xc {c:Nat}(hT:D_ h) (hk:A3 B9 5 h a c ([]:LN)):F1 prog 86 [.slice a ([]:LN).length c] h (a7z []):=by
 refine aQ func86 U ntmps86 U (λe he=>?_);refine ba [(0,_)] y9 ?_;have AD:=aP h;refine Sr (bp iQ U (λb1=>?_));refine Ru 1 U (aj (Sr (Ru 1 U (aj (aK (Sr (Ru 1 U (bS PD U (QH hk hT yD) U ?_))))))));rintro _ h2 zH ⟨oa,oc,rfl,hO⟩
 replace hk:=hk.mono zH
 replace AD:=AD.mono zH
 refine Ru 2 U (aj (aV (bU (λt_ S_ h_ L_=>∃ (i:Nat),t_=0-i/\S_=[(2,.pointer (some ⟨b1,0,none⟩)),(4,.slice none 0 0),(13,.slice oa ([]:LN).length oc),(14,.int .i64 0),(15,.int .i64 0)]/\h2=h_/\L_=[.yY b1 33 [.int .i64 0,.int .i64 0,.bool false,.slice none 0 0,.slice none 0 0]]/\(True)) ⟨_,_,?_,⟨0,U,U,U,U,trivial⟩⟩ ?_)))
 ·exact Du
 rintro _ _ _ _ ⟨i,rfl,rfl,rfl,rfl,-⟩;refine Sr (Ru 1 U (aj (aK (Cs U (λDv=>?_) λDv=>?_))))
 ·exfalso;omega
 refine bJ (Kp [2,4] U (Sr (Ru 1 U (cj ZZ U (a0Q) U ?_))));refine aj (Sr (aA (bi (cs:=[.int .i64 0,_,_,.slice none 0 0,.slice none 0 0]) n8 U U) U ?_));refine bp iQ U (λb5=>?_);refine aZ ci U U zW lx ly Dn ?_;refine aj (aK (Sr (Ru 3 U (aj (aV (bU (λt_ S_ h_ L_=>∃ (i:Nat),t_=0-i/\S_=[(2,.pointer (some ⟨b1,0,none⟩)),(9,.pointer (some ⟨b5,0,none⟩)),(39,.slice none 0 0),(40,.int .i64 0),(41,.int .i64 0)]/\h2=h_/\L_=[.yY b5 33 [.int .i64 0,.int .i64 17,.bool true,.slice none 0 0,.slice none 0 0],.yY b1 33 [.int .i64 0,.int .i64 0,.bool false,.slice none 0 0,.slice none 0 0]]/\(True)) ⟨_,_,?_,⟨0,U,U,U,U,trivial⟩⟩ ?_))))))
 ·exact Du
 rintro _ _ _ _ ⟨i,rfl,rfl,rfl,rfl,-⟩;refine Sr (Ru 1 U (aj (aK (Cs U (λLj=>?_) λLj=>?_))))
 ·exfalso;omega
 refine bJ (Kp [2,9] U (Sr (aA (bK ci U zV Dn) U ?_)));refine aZ ci U U zW lx ly Dn ?_;exact Ru 1 U (aj (bM (B7.PB U U ci zV Dn U) (.inr ⟨_,[],[],U,⟨U,λp hp=>by cases hp⟩,Lz _,List.Pairwise.nil,B9.of bA bA⟩)))
def I8 (ks:LN) (m:Nd) (e:Int):Prop:=(Hr ks/\m=NZ/\e=34)\/∃ l0 L,Vm l0 ks/\L.Perm l0/\List.Pairwise (λp q=>KK q p=false) L/\m=.mk 0 17 true [] (L.map (·.2))/\e=0
def a7X (ks:LN) (v:Value) (h':Part):Prop:=∃ cs m e,v=.tuple #[.agg (List.toArray cs),.int .i64 e]/\B9 h' cs m/\I8 ks m e
theorem Wk {v:Value}(k:a7z ks v h):a7X ks v h:=by
 rcases k with ⟨h1,cs,rfl,h2⟩|⟨cs,l0,L,rfl,h1,h2,h3,h4⟩
 ·exact⟨cs,_,_,U,h2,.inl ⟨h1,U,U⟩⟩
 ·exact⟨cs,_,_,U,h4,.inr ⟨l0,L,h1,h2,h3,U,U⟩⟩
theorem a1B {c:Nat}(hk:A3 B9 5 h a c ks) (hT:D_ h) (hlen:ks.length<=19) (CP:Nd.yP ks<=20000000):F1 prog 86 [.slice a ks.length c] h (a7X ks):=by
 cases ks with
 |nil=>exact(Xc hT hk).mono λv h' _ r=>Wk r
 |cons x r=>exact(Xb hk hT (by simp) hlen CP).mono λv h' _ r=>Wk r
theorem Vm.eq {l:List (LB×Nd)}(h:Vm l ks):l=ks.map λx=>(x.put.getD [],x):=by
 rw [<- h.1,yv];have:∀ p∈l,p=((λx:Nd=>(x.put.getD [],x))∘λp:LB×Nd=>p.2) p:=λp hp=>by
  have:=h.2 p hp;show p=(p.2.put.getD [],p.2);rw [this];rfl
 exact(Ag l).symm.trans (xO this)
theorem Hr.perm {ks V0:LN}(hp:ks.Perm V0) (h:Hr ks):Hr V0:=by
 obtain⟨x,hx,h⟩:=h;exact⟨x,hp.mem_iff.1 hx,h⟩
theorem Vm.QQ {l:List (LB×Nd)}(h:Vm l ks):¬ Hr ks:=λ⟨x,hx,hb⟩=>by
 rw [<- h.1] at hx;obtain⟨p,hp,rfl⟩:=y'.1 hx;rw [h.2 p hp] at hb;cases hb
theorem I8.eq {ks V0:LN}{m m':Nd}{e e':Int}(hp:ks.Perm V0) (hz:Nd.yP ks<=20000000) (h:I8 ks m e) (h':I8 V0 m' e'):m=m'/\e=e':=by
 rcases h with ⟨h1,h2,h3⟩|⟨l0,L,h1,h2,h3,h4,h5⟩
 ·rcases h' with ⟨g1,g2,g3⟩|⟨l0',L',g1,g2,g3,g4,g5⟩
  ·exact⟨h2.trans g2.symm,h3.trans g3.symm⟩
  ·exact absurd (h1.perm hp) g1.QQ
 ·rcases h' with ⟨g1,g2,g3⟩|⟨l0',L',g1,g2,g3,g4,g5⟩
  ·exact absurd (g1.perm hp.symm) h1.QQ
  ·have GU:l0'.Perm l0:=by rw [h1.eq,g1.eq];exact hp.symm.map _
   have hb:∀ p∈l0,p.1.length<4294967296:=λp Yw=>by
    have h6:=dA _ p.2 p.1 (aB _) (h1.2 p Yw);have h7:p.2∈ks:=by rw [<- h1.1];exact y'.2 ⟨p,Yw,U⟩
    have h8:=bX h7;omega
   have:=Wf h1.2 hb h2 (g2.trans GU) h3 g3;subst this;exact⟨h4.trans g4.symm,h5.trans g5.symm⟩
theorem W0 {a b:LN}(h:a.Perm b):Nd.yP a=Nd.yP b:=by
 induction h with
 |nil=>rfl
 |cons x _ ih=>simp only [Nd.yP,ih]
 |swap x y l=>simp only [Nd.yP];omega
 |trans _ _ i1 i2=>exact i1.trans i2
theorem I8.sz {m:Nd}{e:Int}(h:I8 ks m e):m.sz<=1+Nd.yP ks:=by
 rcases h with ⟨h1,rfl,h3⟩|⟨l0,L,h1,h2,h3,rfl,h5⟩
 ·simp [NZ,Nd.sz,Nd.yP]
 ·have:=W0 (h2.map (·.2));rw [h1.1] at this;simp [Nd.sz,this]
instance:Nonempty (Nd×Int):=⟨(NZ,0)⟩
noncomputable def Dp (ks:LN):Nd×Int:=Classical.epsilon λp=>I8 ks p.1 p.2
theorem a19 {ks V0:LN}{m:Nd}{e:Int}(hp:V0.Perm ks) (hz:Nd.yP ks<=20000000) (h:I8 V0 m e):m=(Dp ks).1/\e=(Dp ks).2:=by
 have h0:I8 ks m e:=by
  rcases h with ⟨h1,h2,h3⟩|⟨l0,L,h1,h2,h3,h4,h5⟩
  ·exact .inl ⟨h1.perm hp,h2,h3⟩
  ·refine .inr ⟨ks.map λx=>(x.put.getD [],x),L,⟨by simp [yv,SR],λp V9=>?_⟩,h2.trans ?_,h3,h4,h5⟩
   ·obtain⟨x,hx,rfl⟩:=y'.1 V9;have hx':=hp.mem_iff.2 hx;rw [<- h1.1] at hx';obtain⟨q,hq,rfl⟩:=y'.1 hx';simp [h1.2 q hq]
   ·rw [h1.eq];exact hp.map _
 have h1:I8 ks (Dp ks).1 (Dp ks).2:=Classical.epsilon_spec (p:=λp:Nd×Int=>I8 ks p.1 p.2) ⟨(m,e),h0⟩;exact h0.eq (Lz _) hz h1
theorem a17 (ks:LN):∃ p:Nd×Int,I8 ks p.1 p.2:=by
 by_cases hb:Hr ks
 ·exact⟨(NZ,34),.inl ⟨hb,U,U⟩⟩
 ·have TX:∀ x∈ks,x.put=some (x.put.getD []):=λx hx=>by
   cases hp:x.put with
   |none=>exact absurd ⟨x,hx,hp⟩ hb
   |some b=>rfl
  refine⟨(_,0),.inr ⟨ks.map λx=>(x.put.getD [],x),(ks.map λx=>(x.put.getD [],x)).mergeSort (λp q=>!KK q p),⟨by simp [yv,SR],λp hp=>?_⟩,List.mergeSort_perm _ _,?_,U,U⟩⟩
  ·obtain⟨x,hx,rfl⟩:=y'.1 hp;exact TX x hx
  ·refine(List.pairwise_mergeSort (le:=λp q=>!KK q p) (λx y w h1 h2=>?_) (λx y=>?_) _).imp λh=>by simpa using h
   ·simp only [yN] at h1 h2 |-
    exact kw.tr x y w h1 h2
   ·cases h:KK y x with
    |false=>rfl
    |true=>simp [kw.asy y x h]
theorem qn (ks:LN):I8 ks (Dp ks).1 (Dp ks).2:=Classical.epsilon_spec (p:=λp:Nd×Int=>I8 ks p.1 p.2) (a17 ks)
theorem Xa (ks:LN) (hl:ks.length<=19) (hz:Nd.yP ks<=20000000):yq prog 86 [.AX ks] (.zZ [.nd (Dp ks).1,.i (Dp ks).2]):=.mk λh vs hT hd=>by
 obtain⟨v,rfl,h1⟩:=ll hd;obtain⟨a,cc,rfl,hR⟩:=dy.1 h1;exact(a1B hR hT hl hz).mono λv h' _ ⟨cs,m,e,hv,r,hs⟩=>by
  obtain⟨rfl,rfl⟩:=a19 (Lz _) hz hs;exact⟨_,U,by rw [hv];exact rE ((fw (h:=h')).2 ⟨cs,U,r⟩) (bh (h:=h'))⟩
end Go.Proofs.YtilafeifbaaagaaGreatDoor
