/- Parts. -/
import Derived.Test.YtilafeifbaaagaaGreatDoorR4
set_option maxRecDepth 100000
set_option maxHeartbeats 8000000
set_option linter.unusedSimpArgs false
set_option linter.unusedVariables false
set_option linter.constructorNameAsVariable false
namespace Go.Proofs.YtilafeifbaaagaaGreatDoor
open Go.Proofs.Tryz
open Go Go.RowKit
theorem m22 {p:Prop}(u:p:=by
 rfl
 refine W ?_;refine⟨g+1,by omega,by omega,y9,?_⟩;rw [EW];exact y9):p:=u
theorem m25 {p:Prop}(u:p:=by
 refine W ?_;exact Ev 1 U U U U U (by simp_all [yR,B5])):p:=u
theorem m38 {p:Prop}(u:p:=by
 refine W ?_;exact Ev 1 U U U U U ⟨U,U⟩):p:=u
theorem m41 {p:Prop}(u:p:=by
 refine W ?_;refine Bg U U (λh3=>?_) (λh3=>?_)
 all_goals
  refine W ?_
  first|exact⟨g+1,by omega,⟨.inr xE,gY ho h2⟩,⟨rfl,rfl,rfl,rfl,trivial⟩,trivial⟩|(refine Ci rfl (λh=>by cases h) (λ_=>?_);refine W ?_;exact⟨g+1,by omega,⟨.inr xE,gY ho h2⟩,⟨rfl,rfl,rfl,rfl,trivial⟩,trivial⟩)):p:=u
theorem m63 {p:Prop}(u:p:=by
 refine W ?_;exact⟨_,_,_,U,U,U⟩):p:=u
theorem m66 {p:Prop}(u:p:=by
 refine W ?_;exact⟨true,by simp_all [Dd];try omega,⟨⟨_,U,az⟩,⟨_,U,az⟩,⟨_,U,dL⟩,trivial⟩,y9⟩):p:=u
theorem m75 {p:Prop}(u:p:=by
 refine W ?_;refine Mu U U U U h5 U U ?_;refine W ?_;refine⟨g+1,by omega,⟨by omega,?_⟩,y9,?_⟩
 ·rw [EW];exact hf
 ·show I7 [(0,.set (((l.take (g+1)).map (·.zJ)).map MR))] _;rw [EW];exact y9):p:=u
theorem m87 {p:Prop}(u:p:=by
 refine W ?_;exact Rt U U (fin (.inr xE))):p:=u
theorem m88 {p:Prop}(u:p:=by
 refine W ?_;exact Rt U U (fin (.inl xE))):p:=u
theorem m97 {p:Prop}(u:p:=by
 simp [execOp,st.eval hx,st.eval hy,Instr.lookup,run_underlying h1,getObj,Sem.run,hw,hck,hfk,Result.andThen,zeroValue,typeInfo,h3,h4,hc]):p:=u
theorem m99 {p:Prop}(u:p:=by
 rcases hh with rfl|rfl|rfl<;>kernel_rfl):p:=u
theorem m101 {p:Prop}(u:p:=by
 refine W ?_;exact Ev 1 U U U U U (by simp_all [yR,B5,LL];try omega)):p:=u
theorem m103 {p:Prop}(u:p:=by
 refine W ?_;refine Rt U U (bad ?_);have:l.all Ax=false:=by
  rw [yM];exact⟨l[g],ax yJ,by rw [<- yL,h2];simp⟩
 simp [C9,this]):p:=u
theorem m117 {p:Prop}(u:p:=by
 refine W ?_;exact Rt U U (bad (Ir (by unfold EM;rw [ah (p:=((xN (f.yB.getD g default)).1.rk:Int)<=20) xE,yA])))):p:=u
theorem m127 {p:Prop}(u:p:=by
 refine W ?_;refine Rt U U ?_;rw [hb];rfl):p:=u
theorem m129 {p:Prop}(u:p:=by
 refine W ?_;exact Rt U U (bad (Ir (by unfold EM;rw [ah (p:=(xN (f.yB.getD g default)).2.2=0) h4];rfl)))):p:=u
theorem m134 {p:Prop}(u:p:=by
 exact an func207 U ntmps207 U (λe=>Y)):p:=u
theorem m140 {p:Prop}(u:p:=by
 have:f.yB.all EM=false:=by
  rw [yM];exact⟨f.yB[g],ax hl,by rw [<- yL,hb];simp⟩
 simp [Ck,this]):p:=u
theorem m141 {p:Prop}(u:p:=by
 rw [ai hl,y8,yL];rfl):p:=u
theorem m142 {p:Prop}(u:p:=by
 have CK:g=l.length:=by omega
 subst CK;rw [xK];refine W ?_;refine Pb 0 U ?_;refine W ?_;exact Rt U U U):p:=u
theorem m151 {p:Prop}(u:p:=by
 rw [ai hl,yr,zX,<- yL];simp only [ya,zt,zf];rfl):p:=u
theorem m160 {p:Prop}(u:p:=by
 refine W ?_;exact Rt U U (bad (by simp [Ck,show ¬ 1<=(f.yB.length:Int) by omega]))):p:=u
theorem m161 {p:Prop}(u:p:=by
 refine W ?_;exact Rt U U (bad (by simp [Ck,show ¬ (f.yB.length:Int)<=8 by omega]))):p:=u
theorem m163 {p:Prop}(u:p:=by
 rw [kU];simp [lk,fj hh,GC,Fb,FQ]):p:=u
theorem m164 {p:Prop}(u:p:=by
 refine W ?_;refine Rt U U ?_;rfl):p:=u
theorem m166 {p:Prop}(u:p:=by
 obtain⟨c,t,k,b,ks⟩:=n;simp only [Fb,FQ,HS,HD,Fs] at *;subst c1 c2 c3 hb;rfl):p:=u
theorem m168 {p:Prop}(u:p:=by
 refine W ?_;refine Rt U U ?_;rw [ae (by rw [aD xE,aD xE] at ht;exact ht)];rfl):p:=u
theorem m173 {p:Prop}(u:p:=by
 rw [bT (dP h3),bT (dP h4)];rfl):p:=u
theorem m174 {p:Prop}(u:p:=by
 refine W ?_;refine Rt U U ?_;rw [ah (λhh=>by rw [hh] at h;exact h U)];rfl):p:=u
theorem m178 {p:Prop}(u:p:=by
 refine W ?_;refine Rt U U ?_;rw [hf];rfl):p:=u
theorem m186 {p:Prop}(u:p:=by
 rw [u0 h3,c_,bT (dP h4)];rfl):p:=u
theorem m187 {p:Prop}(u:p:=by
 rw [bT (dP h3),u0 h4,c_];rfl):p:=u
theorem m194 {p:Prop}(u:p:=by
 refine W ?_;exact Rt0 U U U):p:=u
theorem m197 {p:Prop}(u:p:=by
 have FH:((l.take g).map yS).length<=10000000:=by rw [aq];have:=xY g l;omega
 refine W ?_;refine Ci U (λh3=>?_) (λh3=>?_)
 ·have yJ:g<l.length:=by omega
  have EW:(l.take (g+1)).map yS=(l.take g).map yS++[yS (l.getD g default)]:=by rw [ai yJ,y8,aU yJ];rfl
  refine W ?_;refine⟨g+1,by omega,by omega,y9,?_⟩;rw [EW];exact y9
 ·exact m142):p:=u
theorem m199 {p:Prop}(u:p:=by
 rintro _ _;refine W ?_;refine Lp (λ_:Unit=>True) (λ_=>0) (λ_=>[(1,.d (.i 1)),(6,.d (.i 20))]) (λ_=>[]) () trivial y9 trivial ?_;rintro _ _;exact m63):p:=u
theorem m200 {p:Prop}(u:p:=by
 refine W ?_;refine Lp (λ_:Unit=>True) (λ_=>0) (λ_=>[(2,.d (.i 1)),(8,.d (.i 1))]) (λ_=>[]) () trivial y9 trivial ?_;rintro _ _;exact m63):p:=u
theorem m206 {p:Prop}(u:p:=by
 rw [e1];exact m10):p:=u
abbrev Bn:=@UInt8.ofNat_toNat
abbrev Av:=@List.getD_cons_zero
abbrev BC:=@List.getD_cons_succ
abbrev Hi:=@Option.isSome_some
abbrev DE:=@Option.isSome_map
abbrev IN:=@List.drop_length
abbrev zp:=@List.all_map
abbrev Hm:=@Int.natCast_nonneg
variable{k:Bool}
theorem Fb {c t:Int}{b:yG}{l:LN}:(Nd.mk c t k b l).cls=c:=rfl
theorem FQ {c t:Int}{b:yG}{l:LN}:(Nd.mk c t k b l).tag=t:=rfl
theorem HS {c t:Int}{b:yG}{l:LN}:(Nd.mk c t k b l).cons=k:=rfl
theorem HD {c t:Int}{b:yG}{l:LN}:(Nd.mk c t k b l).bytes=b:=rfl
theorem Fs {c t:Int}{b:yG}{l:LN}:(Nd.mk c t k b l).kids=l:=rfl
theorem qR {b s:yG}(h:AK b=some s):Ai s=some b:=by
 rw [oT] at h;unfold Ur at h;cases hd:Bl b 0 true with
 |none=>rw [hd] at h;cases h
 |some l =>
  rw [hd] at h;by_cases hl:l=[]
  ·simp [hl] at h
  ·simp only [xC hl,AI,au] at h;obtain⟨h1,h2⟩:=pN b 0 true l (λ_=>rfl) (λx=>by cases x) hd;rw [<- h,va l h2,xC hl,<- h1,vu,xP]
theorem S3 {c:UInt8}(h:FZ c=true):UInt8.ofNat (48+(c.toNat-48))=c:=by
 unfold FZ at h;have:=xV h;rw [show 48+(c.toNat-48)=c.toNat by omega,Bn]
theorem RJ:∀ (s:yG) (v:Nat),v<=s.foldl (λv c=>v*10+(c.toNat-48)) v
 |[],v=>aB v
 |c::r,v=>xJ xE (RJ r (v*10+(c.toNat-48)))
theorem XF {s:yG}(hn:s≠[]) (hd:s.all FZ=true) (h0:(s.getD 0 0).toNat≠48):0<Ar s:=by
 cases s with
 |nil=>exact absurd U hn
 |cons c r =>
  rw [ya,xB] at hd;have h1:=xV hd.1;have h2:c.toNat≠48:=h0;have h3:=RJ r (0*10+(c.toNat-48));unfold Ar;rw [Cm];omega
theorem S0:∀ (k:Nat) (s:yG) (f len:Nat),s.length=k->k<=f->1<=len->s.all FZ=true->(s≠[]->(s.getD 0 0).toNat≠48)->Hh f (Ar s) len 1=s
 |0,s,f,len,hk,_,hl,_,_=>by
  have:s=[]:=xI hk;subst this;exact mO (by simp [Ar];omega)
 |k+1,s,f,len,hk,hf,hl,hd,h0=>by
  obtain⟨f,rfl⟩:∃ f',f=f'+1:=⟨f-1,by omega⟩;have D5:s≠[]:=by rintro rfl;simp at hk
  have hp:=XF D5 hd (h0 D5);obtain⟨t,c,rfl⟩:∃ t c,s=t++[c]:=⟨s.dropLast,s.getLast D5,(List.dropLast_concat_getLast D5).symm⟩;simp only [yr,ya,zf,yO,xB] at hd;have hc:=xV hd.2;rw [Hh,xD (.inl hp),fU];rw [show(Ar t*10+(c.toNat-48)) / 10=Ar t by omega,show(Ar t*10+(c.toNat-48)) % 10=c.toNat-48 by omega,S3 hd.2];rw [S0 k t f (len+1) (by simp at hk;exact hk) xE xE hd.1 (λhn=>?_)];cases t with
  |nil=>exact absurd U hn
  |cons x r=>exact h0 D5
theorem ve {s:yG}{n:Nat}(h:BT s=some n):CS n 1=s:=by
 unfold BT at h;split at h
 ·cases h
 rename_i hb;split at h
 ·cases h;have h1:¬ (s.length=0\/19<s.length\/1<s.length/\(s.getD 0 0).toNat=48):=λhh=>hb (by unfold FN;rw [ae hh];rfl);have hd:s.all FZ=true:=by
   cases hs:s.all FZ with
   |true=>rfl
   |false=>exact absurd (by rw [hs,yK,Jy]) hb
  have D5:s≠[]:=λe=>h1 (.inl (by rw [e];rfl));obtain⟨t,c,rfl⟩:∃ t c,s=t++[c]:=⟨s.dropLast,s.getLast D5,(List.dropLast_concat_getLast D5).symm⟩;simp only [yr,ya,zf,yO,xB] at hd;have hc:=xV hd.2;rw [aF,List.length_singleton] at h1;unfold CS;rw [Hh,xD (.inr yD),fU];rw [show(Ar t*10+(c.toNat-48)) / 10=Ar t by omega,show(Ar t*10+(c.toNat-48)) % 10=c.toNat-48 by omega,S3 hd.2];rw [S0 t.length t 19 (0+1) U xE yD hd.1 (λhn=>?_)];cases t with
  |nil=>exact absurd U hn
  |cons x r=>exact λhh=>h1 (.inr (.inr ⟨by simp,hh⟩))
 ·cases h
theorem oX:∀ (s cur:yG) (l:List Nat),zj s cur=some l->∃ n r,l=n::r/\cur++s=CS n 1++BK r
 |[],cur,l,h=>by
  simp only [zj,zl] at h;obtain⟨n,hn,rfl⟩:=h;exact⟨n,[],U,by rw [ve hn];rfl⟩
 |c::r,cur,l,h=>by
  unfold zj at h;split at h
  ·rename_i hc;split at h
   ·cases h
   ·rename_i n hn;rw [zl] at h;obtain⟨l',hl,rfl⟩:=h;obtain⟨m,r',rfl,e⟩:=oX r [] l' hl;rw [xP] at e;exact⟨n,m::r',U,by rw [hc,ve hn,BK,e];simp⟩
  ·obtain⟨n,r',e1,e2⟩:=oX r (cur++[c]) l h;exact⟨n,r',e1,by rw [<- e2];simp⟩
theorem sW {b s:yG}(h:Ai s=some b):AK b=some s:=by
 unfold Ai at h;split at h
 ·cases h
 ·rename_i l hl;split at h
  ·rename_i zt;cases h;have yJ:=gZ s [] l hl;obtain⟨x,r,rfl,e⟩:=oX s [] l hl;cases r with
   |nil=>simp [Fp] at zt
   |cons y r =>
    simp only [Fp,xB,yu,a_,Av,BC] at zt;have hy:=yJ y (by simp);have h3:Bl (enc ((40*x+y)::r)) 0 true=some ((40*x+y)::r):=by
     refine tw _ λz hz=>?_;rcases zE.1 hz with rfl|hz
     ·omega
     ·exact yJ z (by simp [hz])
    show AK (enc ((40*x+y)::r))=some s;rw [oT];unfold Ur;rw [h3];show some (DR ((40*x+y)::r))=some s;have q:min ((40*x+y) / 40) 2=x:=by omega
    rw [DR,q,show 40*x+y-40*x=y by omega];rw [xP,BK] at e;rw [e];simp only [xW]
  ·cases h
theorem v8 {b s:yG}(h:Ai s=some b):(AK b).isSome=true:=by rw [sW h];rfl
def IC (l:List yG) (i:Nat):Prop:=∀ j,j<i->¬ 0<Go.Lib.compareBytes (l.getD j []) (l.getD (j+1) [])
instance (l:List yG) (i:Nat):Decidable (IC l i):=inferInstanceAs (Decidable (∀ j,j<i->_))
def E5 (l:List yG):Bool:=decide (IC l (l.length-1))
theorem oO (x y:yG) (r:List yG):E5 (x::y::r)=(!decide (0<Go.Lib.compareBytes x y)&&E5 (y::r)):=by
 unfold E5 IC;rw [Kn];simp only [a_,xB,yN,xL,aw,Af];constructor
 ·intro h;exact⟨h 0 xE,λj hj=>h (j+1) xE⟩
 ·rintro⟨h1,h2⟩ j hj;cases j with
  |zero=>exact h1
  |succ j=>exact h2 j xE
theorem mo (set:Bool):∀ (ks:LN) (last acc:yG),(Nd.B0 set ks (some last) acc).isSome=(ks.all (·.put.isSome)&&(!set||E5 (last::ks.map λk=>k.put.getD [])))
 |[],last,acc=>by simp [Nd.B0,E5,IC]
 |x::r,last,acc=>by
  simp only [Nd.B0,yy,ya];cases hx:x.put with
  |none=>simp
  |some b =>
   simp only [Hi,xQ,zw];rw [oO];simp only [GM];by_cases hc:0<Go.Lib.compareBytes last b
   ·simp only [ae hc,yO,ym,A5,Ic];cases set with
    |true=>simp
    |false=>simp only [bg,if_false,yK,yO];rw [mo];simp
   ·simp only [ah hc,yA,bg,if_false,yK,xQ];rw [mo]
theorem ei (set:Bool) (ks:LN) (acc:yG):(Nd.B0 set ks none acc).isSome=(ks.all (·.put.isSome)&&(!set||E5 (ks.map λk=>k.put.getD []))):=by
 cases ks with
 |nil=>simp [Nd.B0,E5,IC]
 |cons x r =>
  simp only [Nd.B0,yy,ya];cases hx:x.put with
  |none=>simp
  |some b =>
   simp only [GM,yA,bg,if_false,Hi,xQ,zw];rw [mo]
theorem dx (ks:LN):(Nd.mk 0 16 true [] ks).put.isSome=ks.all (·.put.isSome):=by
 have h:EU 0 16 true [] ks=true:=by simp [EU,B6,form]
 rw [Nd.put,xD h,DE,show(decide ((0:Int)=0)&&decide ((16:Int)=17))=false by decide,ei];simp
theorem mn (ks:LN):(Nd.mk 0 17 true [] ks).put.isSome=(ks.all (·.put.isSome)&&E5 (ks.map λk=>k.put.getD [])):=by
 have h:EU 0 17 true [] ks=true:=by simp [EU,B6,form]
 rw [Nd.put,xD h,DE,show(decide ((0:Int)=0)&&decide ((17:Int)=17))=true by decide,ei];simp
variable{t:Int}
theorem fT {n:Nd}(h:n.put.isSome=true) (h0:n.cls=0) (ht:n.tag=t) (hm:B6 0 t false=false):n.cons=true/\n.bytes=[]:=by
 cases n with
 |mk c tt k b ks =>
  simp only [Nd.cls,Nd.tag,Nd.cons,Nd.bytes] at *;subst h0 ht;have zt:EU 0 tt k b ks=true:=by
   simp only [Nd.put] at h;split at h
   ·assumption
   ·cases h
  unfold EU at zt;simp only [xB] at zt;cases k with
  |false=>rw [hm] at zt;simp at zt
  |true =>
   simp at zt;exact⟨U,zt.2⟩
theorem k9 {n:Nd}(h:n.put.isSome=true) (h0:n.cls=0) (ht:n.tag=t) (hm:B6 0 t true=false):n.cons=false/\n.kids=[]/\AJ t n.bytes=true:=by
 refine eO (t:=t) ?_ hm;unfold Dq;simp [h0,ht,h]
theorem gx {s:yG}(h:(Ai s).isSome=true):(Ay s).put.isSome=true:=by
 obtain⟨b,hb⟩:=yE.1 h;have h2:=v8 hb;have hv:AJ 6 b=true:=by unfold AJ;simp [h2]
 have h3:EU 0 6 false b []=true:=by simp [EU,B6,form,hv]
 simp only [Ay,hb,zw,Nd.put,h3,if_true,DE];rw [ei];simp
theorem lY {n:Nd}(h:n.wr.2=0):n.put=some n.wr.1:=by
 rcases nY n with h1|h1
 ·exact h1.2.1
 ·exact absurd h h1
theorem wO {v:yG}(h:(xN v).2.2=0):(xN v).1.wr=(v,0):=tZ (a:=(xN v).2.1) (by rw [<- h])
theorem a2l {n:Nd}{a b:Nd}(h:n.kids=[a,b]):kd n 0=a/\kd n 1=b:=by simp [kd,h]
def EM (v:yG):Bool:=decide ((xN v).2.2=0)&&decide (((xN v).1.rk:Int)<=20)
def Ck (f:Fe):Bool:=(Ai f.zJ).isSome&&decide (1<=(f.yB.length:Int))&&decide ((f.yB.length:Int)<=8)&&f.yB.all EM&&E5 f.yB
def HK (f:Fe):Nd:=.mk 0 17 true [] (f.yB.map λv=>(xN v).1)
def yS (f:Fe):Nd:=if Ck f then .mk 0 16 true [] [Ay f.zJ,HK f] else DU
def Bv (f:Fe):Int:=if Ck f then 0 else 60
def Bm (n:Nd):yG×Bool:=if decide (n.cls=0)&&decide (n.tag=6) then((AK n.bytes).getD [],(AK n.bytes).isSome) else([],false)
def K3 (k:Nd):Bool:=decide (k.wr.2=0)&&decide ((k.rk:Int)<=20)
def Gf (n:Nd):Bool:=n.put.isSome&&xR n 2 2&&(Bm (kd n 0)).2&&decide ((kd n 1).cls=0)&&decide ((kd n 1).tag=17)&&decide (1<=((kd n 1).kids.length:Int))&&decide (((kd n 1).kids.length:Int)<=8)&&(kd n 1).kids.all K3
def yU (n:Nd):Fe×Bool:=if Gf n then(⟨(Bm (kd n 0)).1,(kd n 1).kids.map (·.wr.1)⟩,true) else(⟨[],[]⟩,false)
def fR (n:Nd):Fe:=⟨(AK (kd n 0).bytes).getD [],((kd n 1).kids.take 10).map λk=>k.put.getD []⟩
def K7 (n:Nd):Fe×Bool:=if decide (Bv (fR n)=0)&&(yS (fR n)).beq n then(fR n,true) else(⟨[],[]⟩,false)
variable{f:Fe}
theorem fX :Bv f=0<->Ck f=true:=by
 unfold Bv;cases Ck f<;>simp
theorem j8 {n:Nd}(h:Gf n=true):Ck (fR n)=true/\yS (fR n)=n/\fR n=⟨(Bm (kd n 0)).1,(kd n 1).kids.map (·.wr.1)⟩:=by
 simp only [Gf,xB,a_] at h;obtain⟨⟨⟨⟨⟨⟨⟨h1,h2⟩,h3⟩,h4⟩,h5⟩,h6⟩,h7⟩,h8⟩:=h;simp only [xR,xB,a_] at h2;obtain⟨⟨⟨⟨c1,c2⟩,c3⟩,c4⟩,c5⟩:=h2;obtain⟨k0,s,hk⟩:∃ a b,n.kids=[a,b]:=by
  match hh:n.kids,c4,c5 with
  |[],c4,_=>simp at c4
  |[_],c4,_=>simp at c4
  |[a,b],_,_=>exact⟨a,b,U⟩
  |_::_::_::_,_,c5=>simp at c5;omega
 obtain⟨e0,e1⟩:=a2l hk;rw [e0] at h3 |-;rw [e1] at h4 h5 h6 h7 h8 |-;have hb:=(fT h1 c1 c2 yD).2;obtain⟨c,t,k,b,ks⟩:=n;simp only [Fb,FQ,HS,HD,Fs] at *;subst c1 c2 c3 hk hb;rw [dx] at h1;simp only [ya,zf,yO,xB] at h1;unfold Bm at h3;split at h3
 ·rename_i hc;rw [xB,a_,a_] at hc;obtain⟨o1,o2,_⟩:=k9 h1.1 hc.1 hc.2 yD;obtain⟨txt,ht⟩:=yE.1 h3;have hrt:=qR ht;have Ry:∀ k∈s.kids,k.put=some k.wr.1/\k.wr.2=0/\(k.rk:Int)<=20:=λk hk=>by
   have:=xH.1 h8 k hk;simp only [K3,xB,a_] at this;exact⟨lY this.1,this⟩
  have U1:s.kids.map (λk=>k.put.getD [])=s.kids.map (·.wr.1):=xO λk hk=>by rw [(Ry k hk).1];rfl
  have hfr:fR (.mk 0 16 true [] [k0,s])=⟨txt,s.kids.map (·.wr.1)⟩:=by
   simp only [fR,kd,Fs,Av,BC,ht,zw];rw [aD xE,U1]
  have Im:=(fT h1.2 h4 h5 yD);have a8Z:(s.kids.map (·.wr.1)).map (λv=>(xN v).1)=s.kids:=by
   rw [yv];conv=>rhs;rw [<- Ag s.kids]
   refine xO λk hk=>?_;show(xN k.wr.1).1=k;rw [gu (Ry k hk).2.1]
  have hs2:s=.mk 0 17 true [] s.kids:=by
   obtain⟨c,t,k,b,ks⟩:=s;simp only [Fb,FQ,HS,HD,Fs] at *;obtain⟨q1,q2⟩:=Im;subst h4 h5 q1 q2;rfl
  have a2x:E5 (s.kids.map (·.wr.1))=true:=by
   have h9:=h1.2;rw [hs2,mn,xB] at h9;rw [<- U1];exact h9.2
  have zt:Ck ⟨txt,s.kids.map (·.wr.1)⟩=true:=by
   simp only [Ck,hrt,Hi,aq,xQ,xB,a_,a2x,and_true];refine⟨⟨h6,h7⟩,xH.2 λv hv=>?_⟩;obtain⟨k,hk,rfl⟩:=y'.1 hv;simp only [EM,gu (Ry k hk).2.1,xB,a_];exact⟨trivial,(Ry k hk).2.2⟩
  rw [hfr];refine⟨zt,?_,?_⟩
  ·unfold yS;rw [xD zt];unfold HK Ay;rw [a8Z,<- hs2,hrt];obtain⟨c,t,k,b,ks⟩:=k0;simp only [Fb,FQ,HS,HD,Fs] at *;obtain⟨q1,q2⟩:=hc;subst q1 q2 o1 o2;rfl
  ·unfold Bm;rw [xD (by simp [hc]),ht];rfl
 ·cases h3
theorem xf {n:Nd}(h1:Ck (fR n)=true) (h2:yS (fR n)=n):Gf n=true:=by
 have hn:=h2;unfold yS at hn;rw [xD h1] at hn;have hf:=h1;simp only [Ck,xB,a_] at hf;obtain⟨⟨⟨⟨g1,g2⟩,g3⟩,g4⟩,g5⟩:=hf;have hv:∀ v∈(fR n).yB,(xN v).1.wr=(v,0)/\((xN v).1.rk:Int)<=20:=λv hv=>by
  have:=xH.1 g4 v hv;simp only [EM,xB,a_] at this;exact⟨wO this.1,this.2⟩
 generalize fR n=f at *;have e0:kd n 0=Ay f.zJ:=by rw [<- hn];rfl
 have e1:kd n 1=HK f:=by rw [<- hn];rfl
 have Im:(HK f).put.isSome=true:=by
  unfold HK;rw [mn,xB];have hp:∀ v∈f.yB,(xN v).1.put=some v:=λv hh=>by have:=hv v hh;rw [lY (by rw [this.1]),this.1]
  refine⟨xH.2 λk hk=>?_,?_⟩
  ·obtain⟨v,hvm,rfl⟩:=y'.1 hk;rw [hp v hvm];rfl
  ·rw [yv];have:f.yB.map ((λk:Nd=>k.put.getD [])∘λv=>(xN v).1)=f.yB:=by
    conv=>rhs;rw [<- Ag f.yB]
    exact xO λv hh=>by show((xN v).1.put).getD []=v;rw [hp v hh];rfl
   rw [this];exact g5
 have TX:n.put.isSome=true:=by rw [<- hn,dx];simp [gx g1,Im]
 have a6f:(Bm (Ay f.zJ)).2=true:=by
  obtain⟨b,hb⟩:=yE.1 g1;have:=v8 hb;simp [Bm,Ay,Fb,FQ,HD,hb,this]
 have a6b:xR n 2 2=true:=by rw [<- hn];simp [xR,Fb,FQ,HS,Fs]
 simp only [Gf,e0,e1,TX,a6b,a6f,xQ,xB,a_];refine⟨⟨⟨⟨U,U⟩,?_⟩,?_⟩,xH.2 λk hk=>?_⟩
 ·simpa [HK,Fs] using g2
 ·simpa [HK,Fs] using g3
 ·simp only [HK,Fs] at hk;obtain⟨v,hvm,rfl⟩:=y'.1 hk;have:=hv v hvm;simp only [K3,this.1,xB,a_];exact⟨trivial,this.2⟩
theorem xe (n:Nd):yU n=K7 n:=by
 unfold yU K7;by_cases h:Gf n=true
 ·obtain⟨h1,h2,h3⟩:=j8 h;rw [xD h,xD (by rw [ae (fX.2 h1),h2,xQ];exact(Nd.beq_eq _ n n (aB _)).2 U),h3]
 ·rw [xC h,xC];intro hh;rw [xB,a_,fX] at hh;exact h (xf hh.1 ((Nd.beq_eq _ _ n (aB _)).1 hh.2))
theorem vY (n:Nd) (l m:Int):yq prog 27 [.nd n,.i l,.i m] (.b (xR n l m)):=by
 unfold xR;exact an func27 U ntmps27 U (λe=>Z)
instance:Cn prog 27 (type_of% @vY):=⟨@vY⟩
def zd (n:Nd) (t:Int) (c:Bool):Bool:=decide (n.cls=2)&&decide (n.tag=t)&&(n.cons == c)
theorem lT (n:Nd) (t:Int) (c:Bool):yq prog 28 [.nd n,.i t,.b c] (.b (zd n t c)):=by
 unfold zd;exact an func28 U ntmps28 U (λe=>Z)
instance:Cn prog 28 (type_of% @lT):=⟨@lT⟩
theorem rJ (s:yG) (hs:s.length<=50000000000):yq prog 65 [.s s] (.zZ [.nd (Ay s),.b (Ai s).isSome]):=by
 unfold Ay;exact an func65 U ntmps65 U (λe=>Z)
instance:Cn prog 65 (type_of% @rJ):=⟨@rJ⟩
theorem vV (n:Nd) (hz:n.sz<=1073741824):yq prog 29 [.nd n] (.zZ [.s (Bm n).1,.b (Bm n).2]):=by
 have:=bc n;unfold Bm;exact an func29 U ntmps29 U (λe=>Z)
instance:Cn prog 29 (type_of% @vV):=⟨@vV⟩
theorem vT (l:LN) (hz:Nd.yP l<=1099511627776):yq prog 117 [.AX l] (.nd (.mk 0 16 true [] l)):=by
 exact an func117 U ntmps117 U (λe=>Z)
theorem nK (n:Nd) (hz:n.sz<=1073741824):yq prog 34 [.nd n] (.bs n.wr.1):=by
 exact an func34 U ntmps34 U (λe=>Z)
instance:Cn prog 34 (type_of% @nK):=⟨@nK⟩
theorem a47 (b:yG):yq prog 302 [.bs b] (.bs b):=by
 exact an func302 U ntmps302 U (λe=>Z)
instance:Cn prog 302 (type_of% @a47):=⟨@a47⟩
theorem ZO:∀ (m:Nat) (n:Nd),n.rk<=m->n.sz<=1073741824->yq prog 300 [.nd n] (.i n.rk):=by
 intro m
 induction m with
 |zero=>intro n hn;cases n;simp [Nd.rk] at hn
 |succ m ih =>
 intro n hn hz;obtain⟨c,t,k,bs,ks⟩:=n;simp only [Nd.rk] at hn;simp only [Nd.sz] at hz;have GU:=bD ks;have hrl:=Nd.Hu ks;refine an func300 U ntmps300 U (λe=>?_);refine W ?_;refine Lp (γ:=Nat) (λg=>g<=ks.length) (λg=>ks.length+1-g) (λg=>[(3,.d (.i (Nd.CO (ks.take g):Nat))),(7,.d (.AX ks)),(8,.d (.i (ks.length:Int))),(9,.d (.i (g:Int)))]) (λ_=>[]) 0 xE y9 trivial ?_;intro g hg;refine W ?_;refine Ci U (λh=>?_) (λh=>?_)
 ·have hl:g<ks.length:=by omega
  have yL:ks.getD g (.mk 0 0 false [] [])=ks[g]:=aU hl;have h1:=Nd.La (ax hl);have h2:ks[g].sz<=Nd.yP ks:=bX (ax hl);have h3:=Nd.Hv ks (g+1);have hk:=ih (ks.getD g (.mk 0 0 false [] [])) (by rw [yL];omega) (by rw [yL];omega);refine W ?_;have e1:((Nd.CO (ks.take (g+1)):Nat):Int)=max ((Nd.CO (ks.take g):Nat):Int) ((ks.getD g (.mk 0 0 false [] [])).rk:Int):=by rw [Nd.Gz ks g hl,yL];omega
  refine⟨g+1,by omega,by omega,?_,trivial⟩;show Ms [(3,.d (.i (Nd.CO (ks.take (g+1)):Nat))),(7,.d (.AX ks)),(8,.d (.i (ks.length:Int))),(9,.d (.i ((g+1:Nat):Int)))] _;rw [e1];exact y9
 ·have CK:g=ks.length:=by omega
  subst CK;rw [xK];refine W ?_;refine Rt U U ?_;simp only [yR,Nd.rk];rfl
theorem Ss (n:Nd) (hz:n.sz<=1073741824):yq prog 300 [.nd n] (.i n.rk):=ZO _ n (aB _) hz
instance:Cn prog 300 (type_of% @Ss):=⟨@Ss⟩
theorem gY {l:List yG}{i:Nat}(h:IC l i) (hc:¬ 0<Go.Lib.compareBytes (l.getD i []) (l.getD (i+1) [])):IC l (i+1):=λj hj=>by
 by_cases hji:j=i
 ·subst hji;exact hc
 ·exact h j xE
theorem nN (l:List yG) (hl:l.length<=1073741824):yq prog 301 [.sl 1 bE l,.v (.func (.func 302) #[] #[]),.b false] (.b (E5 l)):=by
 refine an func301 U ntmps301 U (λe=>?_);refine W ?_;refine Lp (γ:=Nat) (λg=>(g=0\/g+1<=l.length)/\IC l g) (λg=>l.length+1-g) (λg=>[(0,.d (.sl 1 bE l)),(1,.d (.v (.func (.func 302) #[] #[]))),(2,.d (.b false)),(7,.d (.i ((g:Int)+1)))]) (λ_=>[]) 0 ⟨.inl U,λj hj=>by omega⟩ y9 trivial ?_;rintro g ⟨hg,ho⟩;refine W ?_;refine Ci U (λh=>?_) (λh=>?_)
 ·refine W ?_;have My:((g:Int)+1-1).toNat=g:=by omega
  refine Bg U U (λh2=>?_) (λh2=>?_)
  ·rw [My] at h2;have hb:E5 l=false:=by
    refine ah λhh=>hh g xE h2
   exact m127
  rw [My] at h2;exact m41
 ·have hb:E5 l=true:=ae λj hj=>ho j xE;exact m127
instance:Cn prog 301 (type_of% @nN):=⟨@nN⟩
theorem Oh (B:Nat):∀ (l:List yG),(∀ v∈l,v.length<=B)->Nd.yP (l.map λv=>(xN v).1)<=l.length*(B+1)
 |[],_=>by simp [Nd.yP]
 |v::r,h=>by
  have h1:=fI v;have h2:=h v (aC ..);have h3:=Oh B r (λw hw=>h w (aE _ hw));simp only [yy,Nd.yP,aw,D'];omega
theorem eW (f:Fe) (h1:f.zJ.length<=10000000) (h2:f.yB.length<=10000000) (h3:∀ v∈f.yB,v.length<=10000000):yq prog 231 [.st f.enc] (.zZ [.nd (yS f),.i (Bv f)]):=by
 have ho:=dD f.zJ;have bad:Ck f=false->yR [.nd DU,.i 60]=.zZ [.nd (yS f),.i (Bv f)]:=λhb=>by simp [yR,yS,Bv,hb]
 refine an func231 U ntmps231 U (λe=>?_);refine W ?_;refine Bg U U (λg1=>?_) (λg1=>?_)
 ·refine W ?_;exact Rt U U (bad (by simp [Ck,g1]))
 refine W ?_;refine Bg U U (λg2=>?_) (λg2=>?_)
 ·exact m160
 refine W ?_;refine Ci U (λg3=>?_) (λg3=>?_)
 ·exact m161
 refine W ?_;refine Rv kN 3 4 33 U U U U U U ?_;refine Lp (γ:=Nat) (λg=>g<=f.yB.length/\(f.yB.take g).all EM=true) (λg=>f.yB.length+1-g)
  (λg=>[(1,.own 0 0),(2,.own 1 0),(4,.own 2 0),(6,.own 3 0),(34,.d (.sl 1 bE f.yB)),(35,.d (.i (f.yB.length:Int))),(36,.d (.i (g:Int)))])
  (λg=>[(3,.var 33 [.d (.i 0),.d (.i 17),.d (.v (.bool true)),.d (.v (.slice none 0 0)),.row 4]),(4,.row 33 (.AX ((f.yB.take g).map λv=>(xN v).1))),(0,.B1 67 (.st f.enc)),(1,.var 33 [.d (.i 0),.d (.i 0),.d (.b false),.d (.v (.slice none 0 0)),.d (.v (.slice none 0 0))]),(2,.B1 33 (.nd (Ay f.zJ)))]) 0 ⟨by omega,U⟩ ?_ ?_ ?_
 ·exact y9
 ·exact y9
 rintro g ⟨hg,zX⟩;have hs:=fI (f.yB.getD g default);have FH:((f.yB.take g).map λv=>(xN v).1).length<=10000000:=by rw [aq];have:=xY g f.yB;omega
 refine W ?_;refine Ci U (λh=>?_) (λh=>?_)
 ·have hl:g<f.yB.length:=by omega
  have yL:f.yB.getD g default=f.yB[g]:=aU hl;have hvl:=h3 _ (ax hl);have b0A:(f.yB.getD g default).length<=10000000:=by rw [yL];exact hvl
  have Ir:EM (f.yB.getD g default)=false->Ck f=false:=λhb=>by
   exact m140
  refine W ?_;refine Bg U U (λh4=>?_) (λh4=>?_)
  ·exact m129
  refine W ?_;refine Ci U (λh5=>?_) (λh5=>?_)
  ·exact m117
  refine W ?_;have zt:EM (f.yB.getD g default)=true:=by unfold EM;rw [ae (p:=(xN (f.yB.getD g default)).2.2=0) h4,ae (p:=((xN (f.yB.getD g default)).1.rk:Int)<=20) xE];rfl
  have e1:(f.yB.take (g+1)).map (λv=>(xN v).1)=(f.yB.take g).map (λv=>(xN v).1)++[(xN (f.yB.getD g default)).1]:=by
   exact m141
  have e2:(f.yB.take (g+1)).all EM=true:=by
   exact m151
  exact m43
 ·have CK:g=f.yB.length:=by omega
  subst CK;rw [xK] at zX;rw [xK];have CP:=Oh 10000000 f.yB h3;have b26:Nd.yP (f.yB.map λv=>(xN v).1)<=8*10000001:=xJ CP (aT _ xE);refine W ?_;refine Ci U (λh6=>?_) (λh6=>?_)
  ·refine W ?_;exact Rt U U (bad (by simp [Ck,h6]))
  have hsq:=vT [Ay f.zJ,.mk 0 17 true [] (f.yB.map λv=>(xN v).1)] (by simp only [Nd.yP,Nd.sz,ay];omega);refine Pb 4 U ?_;refine W ?_;refine Rt U U ?_;have hb:Ck f=true:=by
   simp only [Ck,g1,zX,h6,show(1:Int)<=f.yB.length by omega,show(f.yB.length:Int)<=8 by omega,decide_true,yO]
  simp only [yR,yS,Bv,hb,if_true,HK]
instance:Cn prog 231 (type_of% @eW):=⟨@eW⟩
theorem kR (n:Nd) (hz:n.sz<=100000000):yq prog 268 [.nd n] (.zZ [.st (yU n).1.enc,.b (yU n).2]):=by
 have k0:=b_ n 0;have k1:=b_ n 1;have bad:Gf n=false->yR [.st (Fe.enc ⟨[],[]⟩),.b false]=.zZ [.st (yU n).1.enc,.b (yU n).2]:=λhb=>by simp [yR,yU,hb]
 refine an func268 U ntmps268 U (λe=>?_);refine W ?_;refine Bg U U (λg1=>?_) (λg1=>?_)
 ·refine W ?_;exact Rt U U (bad (by simp [Gf,g1]))
 refine W ?_;refine Ci U (λg2=>?_) (λg2=>?_)
 ·refine W ?_;exact Rt U U (bad (by simp [Gf,g2]))
 refine W ?_;refine Bg U U (λg3=>?_) (λg3=>?_)
 ·refine W ?_;exact Rt U U (bad (by unfold Gf kd;simp only [g3,yA,A5]))
 refine W ?_;refine Bg U U (λg4=>?_) (λg4=>?_)
 ·refine W ?_;exact Rt U U (bad (by unfold Gf kd;simp only [ah g4,yA,A5]))
 refine W ?_;refine Bg U U (λg5=>?_) (λg5=>?_)
 ·refine W ?_;exact Rt U U (bad (by unfold Gf kd;simp only [ah g5,yA,A5]))
 refine W ?_;refine Bg U U (λg6=>?_) (λg6=>?_)
 ·refine W ?_;exact Rt U U (bad (by unfold Gf kd;simp only [ah (p:=1<=((n.kids.getD 1 (.mk 0 0 false [] [])).kids.length:Int)) xE,yA,A5]))
 refine W ?_;refine Ci U (λg7=>?_) (λg7=>?_)
 ·refine W ?_;exact Rt U U (bad (by unfold Gf kd;simp only [ah (p:=((n.kids.getD 1 (.mk 0 0 false [] [])).kids.length:Int)<=8) xE,yA,A5]))
 refine W ?_;refine Rv (kS 1 bE) 3 1 22 U U U U U U ?_;generalize hs:n.kids.getD 1 (.mk 0 0 false [] [])=s at *;have O4:kd n 1=s:=hs;refine Lp (γ:=Nat) (λg=>g<=s.kids.length/\(s.kids.take g).all K3=true) (λg=>s.kids.length+1-g)
  (λg=>[(2,.own 1 0),(7,.own 3 0),(61,.d (.AX s.kids)),(62,.d (.i (s.kids.length:Int))),(63,.d (.i (g:Int)))])
  (λg=>[(3,.var 67 [.d (.s (Bm (n.kids.getD 0 (.mk 0 0 false [] []))).1),.row 4]),(4,.row 22 (.sl 1 bE ((s.kids.take g).map (·.wr.1)))),(1,.var 67 [.d (.s []),.d (.v (.slice none 0 0))])]) 0 ⟨by omega,U⟩ ?_ ?_ ?_
 ·exact y9
 ·exact y9
 rintro g ⟨hg,zX⟩;have k2:=b_ s g;have FH:((s.kids.take g).map (·.wr.1)).length<=10:=by rw [aq];have:=xY g s.kids;omega
 refine W ?_;refine Ci U (λh=>?_) (λh=>?_)
 ·have hl:g<s.kids.length:=by omega
  have yL:s.kids.getD g (.mk 0 0 false [] [])=s.kids[g]:=aU hl;have Ir:K3 (s.kids.getD g (.mk 0 0 false [] []))=false->Gf n=false:=λhb=>by
   have:s.kids.all K3=false:=by
    rw [yM];exact⟨s.kids[g],ax hl,by rw [<- yL,hb];simp⟩
   unfold Gf;rw [O4,this,yA]
  refine W ?_;refine Bg U U (λh4=>?_) (λh4=>?_)
  ·refine W ?_;exact Rt U U (bad (Ir (by unfold K3;rw [ah h4];rfl)))
  refine W ?_;refine Ci U (λh5=>?_) (λh5=>?_)
  ·refine W ?_;exact Rt U U (bad (Ir (by unfold K3;rw [ah (p:=((s.kids.getD g (.mk 0 0 false [] [])).rk:Int)<=20) xE,yA])))
  refine W ?_;have zt:K3 (s.kids.getD g (.mk 0 0 false [] []))=true:=by unfold K3;rw [ae h4,ae (p:=((s.kids.getD g (.mk 0 0 false [] [])).rk:Int)<=20) xE];rfl
  have e1:(s.kids.take (g+1)).map (·.wr.1)=(s.kids.take g).map (·.wr.1)++[(s.kids.getD g (.mk 0 0 false [] [])).wr.1]:=by
   exact m141
  have e2:(s.kids.take (g+1)).all K3=true:=by
   exact m151
  exact m43
 ·have CK:g=s.kids.length:=by omega
  subst CK;rw [xK] at zX;rw [xK];refine Pb 4 U ?_;refine W ?_;refine Rt U U ?_;have hb:Gf n=true:=by
   unfold Gf;rw [O4,g1,g2.1,show(Bm (kd n 0)).2=true from g3,ae g4,ae g5,ae (p:=1<=(s.kids.length:Int)) xE,ae (p:=(s.kids.length:Int)<=8) xE,zX];rfl
  simp only [yR,yU,hb,if_true,O4];rfl
instance:Cn prog 268 (type_of% @kR):=⟨@kR⟩
theorem nE:∀ (p q:yG),Go.Op.bytesLess p q=C7 p q
 |_,[]=>by simp [Go.Op.bytesLess,C7]
 |[],_::_=>by simp [Go.Op.bytesLess,C7]
 |a::x,b::y=>by
  simp only [Go.Op.bytesLess,C7,nE x y];by_cases h:a=b
  ·subst h;simp
  ·simp [h]
theorem SB (p q:yG):yq prog 145 [.bs p,.bs q] (.b (decide (0<Go.Lib.compareBytes q p))):=by
 rw [<- jL,<- nE];exact an func145 U ntmps145 U (λe=>Z)
instance:Cn prog 145 (type_of% @SB):=⟨@SB⟩
theorem uA (s:yG) (hs:s.length<=1000000000):yq prog 63 [.s s] (.b (Ai s).isSome):=by
 exact an func63 U ntmps63 U (λe=>Z)
instance:Cn prog 63 (type_of% @uA):=⟨@uA⟩
def kdI (n:Nd) (i:Int):Nd:=if i<0\/(n.kids.length:Int)<=i then .mk 0 0 false [] [] else n.kids.getD i.toNat (.mk 0 0 false [] [])
theorem a3Q (n:Nd) (i:Int):yq prog 36 [.nd n,.i i] (.nd (kdI n i)):=by
 unfold kdI;exact an func36 U ntmps36 U (λe=>Z)
instance:Cn prog 36 (type_of% @a3Q):=⟨@a3Q⟩
theorem qA (n:Nd) (hz:n.sz<=10000000):yq prog 37 [.nd n] (.s ((AK n.bytes).getD [])):=by
 have:=bc n;exact an func37 U ntmps37 U (λe=>Z)
instance:Cn prog 37 (type_of% @qA):=⟨@qA⟩
theorem ni (x y:Nd):yq prog 110 [.nd x,.nd y] (.nd (.mk 0 16 true [] [x,y])):=by
 exact an func110 U ntmps110 U (λe=>Z)
instance:Cn prog 110 (type_of% @ni):=⟨@ni⟩
theorem fH (f:Fe) (h1:f.zJ.length<=1000000) (h2:f.yB.length<=1000000) (h3:∀ v∈f.yB,v.length<=1000000):yq prog 286 [.st f.enc] (.zZ [.nd (yS f),.i (Bv f)]):=by
 have bad:Ck f=false->yR [.nd DU,.i 60]=.zZ [.nd (yS f),.i (Bv f)]:=λhb=>by simp [yR,yS,Bv,hb]
 refine an func286 U ntmps286 U (λe=>?_);refine W ?_;refine Bg U U (λg1=>?_) (λg1=>?_)
 ·refine W ?_;exact Rt U U (bad (by simp [Ck,g1]))
 refine W ?_;refine Bg U U (λg2=>?_) (λg2=>?_)
 ·exact m160
 refine W ?_;refine Ci U (λg3=>?_) (λg3=>?_)
 ·exact m161
 refine W ?_;refine Rn kN 4 33 U U ?_;refine Lp (γ:=Nat) (λg=>g<=f.yB.length/\(f.yB.take g).all EM=true/\IC f.yB (g-1)) (λg=>f.yB.length+1-g)
  (λg=>[(1,.own 0 0),(2,.own 1 0),(4,.row 2),(5,.d (.i (g:Int)))])
  (λg=>[(2,.row 33 (.AX ((f.yB.take g).map λv=>(xN v).1))),(0,.B1 67 (.st f.enc)),(1,.var 33 [.d (.i 0),.d (.i 0),.d (.b false),.d (.v (.slice none 0 0)),.d (.v (.slice none 0 0))])]) 0 ⟨by omega,U,λj hj=>by omega⟩ ?_ ?_ ?_
 ·exact y9
 ·exact y9
 rintro g ⟨hg,zX,a2x⟩;have hs:=fI (f.yB.getD g default);have FH:((f.yB.take g).map λv=>(xN v).1).length<=10000000:=by rw [aq];have:=xY g f.yB;omega
 refine W ?_;refine Ci U (λh=>?_) (λh=>?_)
 ·have hl:g<f.yB.length:=by omega
  have yL:f.yB.getD g default=f.yB[g]:=aU hl;have hvl:=h3 _ (ax hl);have b0A:(f.yB.getD g default).length<=1000000:=by rw [yL];exact hvl
  have Ir:EM (f.yB.getD g default)=false->Ck f=false:=λhb=>by
   exact m140
  refine W ?_;refine EK 44 U (λhc h4=>?_) (λhc h4=>?_)
  ·rw [hc];exact m129
  rw [hc];clear hc;refine W ?_;refine EK 49 U (λhc h5=>?_) (λhc h5=>?_)
  ·rw [hc];exact m117
  rw [hc];clear hc;refine W ?_;have zt:EM (f.yB.getD g default)=true:=by unfold EM;rw [ae (p:=(xN (f.yB.getD g default)).2.2=0) h4,ae (p:=((xN (f.yB.getD g default)).1.rk:Int)<=20) xE];rfl
  have e1:(f.yB.take (g+1)).map (λv=>(xN v).1)=(f.yB.take g).map (λv=>(xN v).1)++[(xN (f.yB.getD g default)).1]:=by
   exact m141
  have e2:(f.yB.take (g+1)).all EM=true:=by
   exact m151
  refine EK 52 U (λhc h6=>?_) (λhc h6=>?_)
  ·rw [hc];clear hc;have My:((g:Int)-1).toNat=g-1:=by omega
   have Mz:g-1+1=g:=by omega
   refine W ?_;refine Ci U (λh7=>?_) (λh7=>?_)
   ·rw [My] at h7;refine W ?_;exact Rt U U (bad (by
     have:E5 f.yB=false:=ah λhh=>hh (g-1) xE (by rw [Mz];exact h7);simp [Ck,this]))
   ·rw [My] at h7;refine W ?_;refine⟨g+1,by omega,⟨by omega,e2,?_⟩,y9,?_⟩
    ·have:=gY a2x (by rw [Mz];exact h7);rw [Mz] at this;exact this
    rw [e1];exact y9
  ·rw [hc];clear hc;refine W ?_;refine⟨g+1,by omega,⟨by omega,e2,λj hj=>by omega⟩,y9,?_⟩;rw [e1];exact y9
 ·have CK:g=f.yB.length:=by omega
  subst CK;rw [xK] at zX;rw [xK];refine Pb 2 U ?_;refine W ?_;refine Rt U U ?_;have hb:Ck f=true:=by
   simp only [Ck,g1,zX,show(1:Int)<=f.yB.length by omega,show(f.yB.length:Int)<=8 by omega,decide_true,yO,xQ];exact ae a2x
  simp only [yR,yS,Bv,hb,if_true,HK]
instance:Cn prog 286 (type_of% @fH):=⟨@fH⟩
theorem a2m (n:Nd) (i:Nat):kdI n (i:Int)=kd n i:=by
 unfold kdI kd;split
 ·rw [aJ,bu xE];rfl
 ·rfl
theorem sK (n:Nd):(n.put.getD []).length<=8*n.sz:=by
 cases h:n.put with
 |none=>simp
 |some b=>exact(dA _ n b (aB _) h).2
theorem nf {α:Type}{a b:List α}{g:Nat}{z:α}(h:a.take g=b.take g) (ha:g<a.length) (hb:g<b.length) (he:a.getD g z=b.getD g z):a.take (g+1)=b.take (g+1):=by
 rw [aU ha,aU hb] at he;rw [ai ha,ai hb,h,he]
theorem a2E {α:Type}{a b:List α}{g:Nat}{z:α}(he:¬ a.getD g z=b.getD g z):a≠b:=λh=>he (by rw [h])
theorem fE (a b:List yG) (ha:a.length<=1000000000000):yq prog 44 [.sl 1 bE a,.sl 1 bE b] (.b (decide (a=b))):=by
 refine an func44 U ntmps44 U (λe=>?_);refine W ?_;refine Ci U (λh=>?_) (λh=>?_)
 ·exact m174
 refine W ?_;refine Lp (γ:=Nat) (λg=>g<=a.length/\a.take g=b.take g) (λg=>a.length+1-g) (λg=>[(0,.d (.sl 1 bE a)),(1,.d (.sl 1 bE b)),(5,.d (.i (g:Int)))]) (λ_=>[]) 0 ⟨by omega,U⟩ y9 trivial ?_;rintro g ⟨hg,ht⟩;refine W ?_;refine Ci U (λh2=>?_) (λh2=>?_)
 ·refine W ?_;refine Ci U (λh3=>?_) (λh3=>?_)
  ·refine W ?_;refine Rt U U ?_;rw [ah (a2E h3)];rfl
  ·refine W ?_;exact⟨g+1,by omega,⟨by omega,nf ht xE xE h3⟩,y9,trivial⟩
 ·exact m168
instance:Cn prog 44 (type_of% @fE):=⟨@fE⟩
instance:DecidableEq Fe:=λa b=>decidable_of_iff (a.zJ=b.zJ/\a.yB=b.yB) (by cases a;cases b;simp)
theorem fF (a b:List Fe) (ha:a.length<=1000000000000) (hv:∀ f∈a,f.yB.length<=1000000000000):yq prog 113 [.sl 2 Fe.enc a,.sl 2 Fe.enc b] (.b (decide (a=b))):=by
 refine an func113 U ntmps113 U (λe=>?_);refine W ?_;refine Ci U (λh=>?_) (λh=>?_)
 ·exact m174
 refine W ?_;refine Lp (γ:=Nat) (λg=>g<=a.length/\a.take g=b.take g) (λg=>a.length+1-g) (λg=>[(0,.d (.sl 2 Fe.enc a)),(1,.d (.sl 2 Fe.enc b)),(5,.d (.i (g:Int)))]) (λ_=>[]) 0 ⟨by omega,U⟩ y9 trivial ?_;rintro g ⟨hg,ht⟩;refine W ?_;refine Ci U (λh2=>?_) (λh2=>?_)
 ·have hvg:(a.getD g default).yB.length<=1000000000000:=by rw [aU (show g<a.length by omega)];exact hv _ (ax _)
  refine W ?_;refine EK 28 U (λhc h3=>?_) (λhc h3=>?_)
  ·rw [hc];refine W ?_;refine Rt U U ?_;rw [ah (λhh=>h3 (by rw [hh]))];rfl
  rw [hc];clear hc;refine W ?_;refine Ci U (λh4=>?_) (λh4=>?_)
  ·refine W ?_;refine Rt U U ?_;rw [ah (λhh=>by rw [hh] at h4;simp at h4)];rfl
  ·refine W ?_;refine⟨g+1,by omega,⟨by omega,nf (z:=default) ht xE xE ?_⟩,y9,trivial⟩;generalize a.getD g default=x at *;generalize b.getD g default=y at *;cases x;cases y;simp_all
 ·exact m168
instance:Cn prog 113 (type_of% @fF):=⟨@fF⟩
def Pm (m:Int):List yG->Int->Int
 |[],n=>n
 |v::r,n=>if n<=m then Pm m r (n+1+v.length) else n
def O7 (m:Int):List Fe->Int->Int
 |[],n=>n
 |f::r,n=>if n<=m then O7 m r (Pm m f.yB (n+1+f.zJ.length)) else n
theorem YX (m n:Int) (h:m<n):∀ l,Pm m l n=n
 |[]=>rfl
 |_::_=>xC xE
theorem vx (m n:Int) (h:m<n):∀ l,O7 m l n=n
 |[]=>rfl
 |_::_=>xC xE
def FeB (f:Fe):Prop:=f.zJ.length<=140737488355328/\f.yB.length<=140737488355328/\∀ v∈f.yB,v.length<=140737488355328
theorem fK (l:List Fe) (m:Int) (h0:0<=m) (h1:m<=1000000000000) (hl:l.length<=140737488355328) (hB:∀ f∈l,FeB f):yq prog 116 [.sl 2 Fe.enc l,.i m] (.i (O7 m l 0)):=by
 refine an func116 U ntmps116 U (λe=>?_);refine W ?_;refine Lp (γ:=Nat×Int) (λg=>g.1<=l.length/\0<=g.2/\g.2<=m+1+140737488355328/\O7 m l 0=O7 m (l.drop g.1) g.2) (λg=>l.length+1-g.1) (λg=>[(0,.d (.sl 2 Fe.enc l)),(1,.d (.i m)),(5,.d (.i g.2)),(6,.d (.i (g.1:Int)))]) (λ_=>[]) (0,0) ⟨by simp,by simp,by simp only;omega,U⟩ y9 trivial ?_;rintro⟨g,n⟩ ⟨i0,i1,i2,i3⟩;dsimp only at i0 i1 i2 i3;show JD _ _ _ _ _ [(0,.d (.sl 2 Fe.enc l)),(1,.d (.i m)),(5,.d (.i n)),(6,.d (.i (g:Int)))] [];have fin:m<n\/g=l.length->yR [.i n]=.i (O7 m l 0):=λh=>by
  rw [i3];rcases h with h|h
  ·rw [vx m n h];rfl
  ·rw [h,IN];rfl
 refine W ?_;refine Bg U U (λh=>?_) (λh=>?_)
 ·have yJ:g<l.length:=by omega
  obtain⟨b1,b2,b3⟩:=hB _ (ax yJ);rw [<- aU (z:=default) yJ] at b1 b2 b3;have U5:l.drop g=l.getD g default::l.drop (g+1):=by rw [aL yJ,aU yJ]
  refine W ?_;refine Ci U (λh2=>?_) (λh2=>?_)
  ·rw [U5] at i3;simp only [O7,xD h2] at i3;refine W ?_;refine Lp (γ:=Nat×Int) (λk=>k.1<=(l.getD g default).yB.length/\0<=k.2/\k.2<=m+1+140737488355328/\Pm m (l.getD g default).yB (n+1+(l.getD g default).zJ.length)=Pm m ((l.getD g default).yB.drop k.1) k.2) (λk=>(l.getD g default).yB.length+1-k.1) (λk=>[(0,.d (.sl 2 Fe.enc l)),(1,.d (.i m)),(5,.d (.i k.2)),(6,.d (.i (g:Int))),(7,.d (.i (k.1:Int)))]) (λ_=>[]) (0,n+1+(l.getD g default).zJ.length) ⟨by simp,by simp only;omega,by simp only;omega,U⟩ y9 trivial ?_;rintro⟨k,q⟩ ⟨j0,j1,j2,j3⟩;dsimp only at j0 j1 j2 j3;show JD _ _ _ _ _ [(0,.d (.sl 2 Fe.enc l)),(1,.d (.i m)),(5,.d (.i q)),(6,.d (.i (g:Int))),(7,.d (.i (k:Int)))] [];have nx:m<q\/k=(l.getD g default).yB.length->O7 m l 0=O7 m (l.drop (g+1)) q:=λh=>by
    rw [i3,j3];rcases h with h|h
    ·rw [YX m q h]
    ·rw [h,IN];rfl
   refine W ?_;refine Bg U U (λh3=>?_) (λh3=>?_)
   ·have hlk:k<(l.getD g default).yB.length:=by omega
    have c1:=b3 _ (ax hlk);rw [<- aU (z:=default) hlk] at c1;have hdk:(l.getD g default).yB.drop k=(l.getD g default).yB.getD k default::(l.getD g default).yB.drop (k+1):=by rw [aL hlk,aU hlk]
    refine W ?_;refine Ci U (λh4=>?_) (λh4=>?_)
    ·rw [hdk] at j3;simp only [Pm,xD h4] at j3;refine W ?_;exact⟨(k+1,q+1+((l.getD g default).yB.getD k default).length),by simp only;omega,⟨by simp only;omega,by simp only;omega,by simp only;omega,j3⟩,y9,trivial⟩
    ·refine W ?_;exact⟨(g+1,q),by simp only;omega,⟨by simp only;omega,j1,j2,nx (.inl xE)⟩,y9,trivial⟩
   ·refine W ?_;exact⟨(g+1,q),by simp only;omega,⟨by simp only;omega,j1,j2,nx (.inr xE)⟩,y9,trivial⟩
  ·exact m88
 ·exact m87
instance:Cn prog 116 (type_of% @fK):=⟨@fK⟩
theorem JA {p:Prop}(u:p:=by simp only [aw,ay];omega):p:=u
abbrev KU (i:Nat):D:=.v (.func (.func i) #[] #[])
theorem Yn (v:yG):yq prog 296 [.sl 1 bE [v],.i 0,.i 1,KU 126] (.v (.tuple #[])):=by
 refine an func296 U ntmps296 U (λe=>?_);exact m200
instance:Cn prog 296 (type_of% @Yn):=⟨@Yn⟩
theorem W_ (v:yG):yq prog 229 [.sl 1 bE [v],.i 1,KU 126] (.v (.tuple #[])):=by
 refine an func229 U ntmps229 U (λe=>?_);refine W ?_;refine Lp (λ_:Unit=>True) (λ_=>0) (λ_=>[(0,.d (.sl 1 bE [v])),(1,.d (.i 1)),(2,.d (KU 126)),(6,.d (.i 20)),(7,.d (.i 0)),(8,.d (.i 20))]) (λ_=>[]) () trivial y9 trivial ?_;exact m199
instance:Cn prog 229 (type_of% @W_):=⟨@W_⟩
theorem Wc (v:yG):yq prog 135 [.sl 1 bE [v],KU 126] (.v (.tuple #[])):=by
 refine an func135 U ntmps135 U (λe=>?_);exact m63
instance:Cn prog 135 (type_of% @Wc):=⟨@Wc⟩
theorem Ym (f:Fe):yq prog 298 [.sl 2 Fe.enc [f],.i 0,.i 1,KU 137] (.v (.tuple #[])):=by
 refine an func298 U ntmps298 U (λe=>?_);exact m200
instance:Cn prog 298 (type_of% @Ym):=⟨@Ym⟩
theorem W9 (f:Fe):yq prog 230 [.sl 2 Fe.enc [f],.i 1,KU 137] (.v (.tuple #[])):=by
 refine an func230 U ntmps230 U (λe=>?_);refine W ?_;refine Lp (λ_:Unit=>True) (λ_=>0) (λ_=>[(0,.d (.sl 2 Fe.enc [f])),(1,.d (.i 1)),(2,.d (KU 137)),(6,.d (.i 20)),(7,.d (.i 0)),(8,.d (.i 20))]) (λ_=>[]) () trivial y9 trivial ?_;exact m199
instance:Cn prog 230 (type_of% @W9):=⟨@W9⟩
theorem Wb (f:Fe):yq prog 136 [.sl 2 Fe.enc [f],KU 137] (.v (.tuple #[])):=by
 refine an func136 U ntmps136 U (λe=>?_);exact m63
instance:Cn prog 136 (type_of% @Wb):=⟨@Wb⟩
theorem Px (f:Fe) (hl:f.yB.length<=1000000000000) (hv:∀ v∈f.yB,v.length<=140737488355328):yq prog 72 [.st f.enc] (.st f.enc):=by
 refine an func72 U ntmps72 U (λe=>?_);refine W ?_;refine Rv (kS 1 bE) 2 1 22 U U U U U U ?_;refine Lp (γ:=Nat) (λg=>g<=f.yB.length) (λg=>f.yB.length+1-g)
  (λg=>[(1,.own 0 0),(2,.own 1 0),(3,.own 2 0),(10,.d (.sl 1 bE f.yB)),(11,.d (.i (f.yB.length:Int))),(12,.d (.i (g:Int)))])
  (λg=>[(2,.var 67 [.d (.s f.zJ),.row 3]),(3,.row 22 (.sl 1 bE (f.yB.take g))),(1,.var 67 [.d (.s []),.d (.v (.slice none 0 0))]),(0,.B1 67 (.st f.enc))]) 0 xE ?_ ?_ ?_
 ·exact y9
 ·exact y9
 intro g hg;have FH:(f.yB.take g).length<=1000000000000:=by have:=xY g f.yB;omega
 refine W ?_;refine Ci U (λh=>?_) (λh=>?_)
 ·have yJ:g<f.yB.length:=by omega
  have yL:f.yB.getD g default=f.yB[g]:=aU yJ;have hb:=hv _ (ax yJ);rw [<- yL] at hb;refine W ?_;refine Kz (kS 1 bE) U U U U U U U JA U U U ?_;refine HA U U ?_;refine bI U ?_;refine Kj 3 U U U U U ?_;refine W ?_;have e1:f.yB.take (g+1)=f.yB.take g++[f.yB.getD g default]:=by rw [ai yJ,yL]
  refine⟨g+1,by omega,by omega,y9,?_⟩;rw [e1];exact y9
 ·have CK:g=f.yB.length:=by omega
  subst CK;rw [xK];refine Pb 3 U ?_;refine W ?_;exact Rt U U U
instance:Cn prog 72 (type_of% @Px):=⟨@Px⟩
def Pk (l:List Fe) (o:yG):List yG×Bool:=match l.find? (λf=>decide (f.zJ=o)) with
 |some f=>(f.yB,true)
 |none=>([],false)
theorem Pz (l:List Fe) (o:yG) (hl:l.length<=140737488355328) (hB:∀ f∈l,f.yB.length<=1000000000000/\∀ v∈f.yB,v.length<=140737488355328):yq prog 23 [.sl 2 Fe.enc l,.s o] (.zZ [.sl 1 bE (Pk l o).1,.b (Pk l o).2]):=by
 refine an func23 U ntmps23 U (λe=>?_);refine W ?_;refine Lp (γ:=Nat) (λg=>g<=l.length/\Pk l o=Pk (l.drop g) o) (λg=>l.length+1-g) (λg=>[(1,.d (.s o)),(8,.d (.sl 2 Fe.enc l)),(9,.d (.i (l.length:Int))),(10,.d (.i (g:Int)))]) (λ_=>[]) 0 ⟨by omega,U⟩ y9 trivial ?_;rintro g ⟨hg,hf⟩;refine W ?_;refine Ci U (λh=>?_) (λh=>?_)
 ·have yJ:g<l.length:=by omega
  have yL:l.getD g default=l[g]:=aU yJ;obtain⟨b2,b3⟩:=hB _ (ax yJ);rw [<- yL] at b2 b3;have U5:l.drop g=l.getD g default::l.drop (g+1):=by rw [aL yJ,yL]
  rw [U5] at hf;refine W ?_;refine Ci U (λh2=>?_) (λh2=>?_)
  ·have hgf:Pk l o=((l.getD g default).yB,true):=by
    rw [hf];unfold Pk;rw [List.find?_cons,ae h2]
   refine W ?_;refine Rt U U ?_;rw [hgf];rfl
  ·refine W ?_;refine⟨g+1,by omega,⟨by omega,?_⟩,y9,trivial⟩;rw [hf];unfold Pk;rw [List.find?_cons,ah h2]
 ·refine W ?_;refine Rt U U ?_;rw [hf,yw xE];rfl
instance:Cn prog 23 (type_of% @Pz):=⟨@Pz⟩
theorem rG (o v:yG) (hv:v.length<=140737488355328):yq prog 54 [.sl 2 Fe.enc [⟨o,[v]⟩]] (.sl 2 Fe.enc [⟨o,[v]⟩]):=by
 have ho:=@Px ⟨o,[v]⟩ (by simp) (λw hw=>by simp at hw;subst hw;exact hv);refine an func54 U ntmps54 U (λe=>?_);refine W ?_;refine Rn (kS 2 Fe.enc) 3 67 U U ?_;refine Lp (γ:=Nat) (λg=>g<=1) (λg=>2-g)
  (λg=>[(3,.row 0),(7,.d (.sl 2 Fe.enc [⟨o,[v]⟩])),(8,.d (.i 1)),(9,.d (.i (g:Int)))])
  (λg=>[(0,.row 67 (.sl 2 Fe.enc (if g=0 then [] else [⟨o,[v]⟩])))]) 0 xE y9 y9 ?_
 intro g hg;obtain rfl|rfl:g=0\/g=1:=by omega
 ·show JD _ _ _ _ _ [(3,.row 0),(7,.d (.sl 2 Fe.enc [⟨o,[v]⟩])),(8,.d (.i 1)),(9,.d (.i 0))] [(0,.row 67 (.sl 2 Fe.enc []))];refine W ?_;refine aI (yi.OX (enc:=Fe.enc) [⟨o,[v]⟩] U U U U (λ_ _=>rfl) U U U U U) ?_;exact m144
 ·show JD _ _ _ _ _ [(3,.row 0),(7,.d (.sl 2 Fe.enc [⟨o,[v]⟩])),(8,.d (.i 1)),(9,.d (.i 1))] [(0,.row 67 (.sl 2 Fe.enc [⟨o,[v]⟩]))];refine Pb 0 U ?_;refine W ?_;exact Rt U U U
instance:Cn prog 54 (type_of% @rG):=⟨@rG⟩
theorem Pw (o v:yG) (hv:v.length<=140737488355328):yq prog 22 [.sl 2 Fe.enc [],.st (Fe.enc ⟨o,[v]⟩)] (.sl 2 Fe.enc [⟨o,[v]⟩]):=by
 refine an func22 U ntmps22 U (λe=>?_);refine W ?_;refine Lp (γ:=Unit) (λ_=>True) (λ_=>0) (λ_=>[(3,.own 0 0),(5,.d (.v (.slice none 0 0))),(9,.d (.i 0)),(10,.d (.i 0))]) (λ_=>[(0,.B1 67 (.st (Fe.enc ⟨o,[v]⟩)))]) () trivial y9 y9 ?_;rintro _ _;refine W ?_;refine aI (yi.OX (enc:=Fe.enc) [⟨o,[v]⟩] U U U U (λ_ _=>rfl) U U U U U) ?_;refine aI (yi.KY (kS 2 Fe.enc) U U U U (by simp) U U) ?_;exact m10
instance:Cn prog 22 (type_of% @Pw):=⟨@Pw⟩
variable{P:Program}
section
variable {f:Fr}{n:yF}{x:Nat->yF}{S:AH}{h:Part}{L L':LE}{ops:Array Oper}{rest:LR}{d b cl T:Nat}{ty:TypeId}{pos:String}{af:Array Edge}{arr:Array MapEntry}{α:Type} [DecidableEq α] {u:TypeDesc}{mk:α->Value}{es:List α}{s:α}{xo yo vo:Operand}
theorem JL.makeMap (hd:Nat.blt d f.m=true) (k:∀ b,JL f ops n x rest ((d,.map (some b))::S) h (.obj b (.map #[] 0)::L)):JL f ops n x (⟨some d,.makeMap T none,ty,pos,af,none⟩::rest) S h L:=λa w s =>
 cx (v:=.map (some w.heap.size)) (w':=w.alloc (.map #[] 0)) U (by simp [execOp,Instr.makeMap,newObj,Sem.run]) (k w.heap.size _ _ (s.put hd _ (s.ok.Kh _)))
omit [DecidableEq α] in
theorem iU {K:Nat}{w:World}{r:Option (Nat×Value)}(h2:P.underlying K=some u) (hr:Instr.findNow u (mk s) arr.toList 0=some r):(Instr.findKey K (mk s) arr.toList).run P w=.ok r w:=by
 simp [Instr.findKey,run_underlying h2,Result.andThen,hr]
theorem xG.a2c (hk:Hk u mk) (hT:KN f.P T u=true) (hx:ev S xo=some (.map (some b))) (hy:ev S yo=some (mk s)) (hm:Br.obj b (.map arr cl)∈L) (he:arr.toList.map (λe=>(e.key,e.val))=(es.map mk).map (λv=>(v,Value.bool true))) :
 xG f S h L (.lookup T xo yo false) ty (.bool (es.any λt=>decide (t=s))):=λa w st _ _ _ _=>by
 obtain⟨K,E,i,h1,h2,h3,h4⟩:=tf hT;have hw:w.heap[b]?=some (.map arr cl):=st.ok.own _ hm;obtain⟨r,hr,hc⟩:=gC hk (s:=s) 0 he;have hck:=hk.GJ f.P K w arr.isEmpty s h2;have hfk:=iU (P:=f.P) (w:=w) h2 hr;rcases hc with ⟨rfl,hc⟩|⟨j,rfl,hc⟩
 ·exact m97
 ·exact m97
theorem JL.a5q (hk:Hk u mk) (hT:KN f.P T u=true) (hx:ev S xo=some (.map (some b))) (hy:ev S yo=some (mk s)) (hv:ev S vo=some (.bool true)) (u1:Dt (.obj b (.map arr cl)) L L') (he:arr.toList.map (λe=>(e.key,e.val))=(es.map mk).map (λv=>(v,Value.bool true))) (hn:(es.any λt=>decide (t=s))=false)
 (k:JL f ops n x rest S h (.obj b (.map (arr.push ⟨mk s,.bool true,cl⟩) (cl+1))::L')):JL f ops n x (⟨none,.mapUpdate T xo yo vo,ty,pos,af,none⟩::rest) S h L:=λa w st=>by
 obtain⟨K,E,i,h1,h2,h3,h4⟩:=tf hT;have hw:w.heap[b]?=some (.map arr cl):=st.ok.own _ u1.mem;obtain⟨r,hr,hc⟩:=gC hk (s:=s) 0 he;have hck:=hk.GJ f.P K w false s h2;have hfk:=iU (P:=f.P) (w:=w) h2 hr;rcases hc with ⟨rfl,hc⟩|⟨j,rfl,hc⟩
 ·refine ef (w':=w.putObj b (.map (arr.push ⟨mk s,.bool true,cl⟩) (cl+1))) U ?_ (k _ _ (st.with ((st.ok.perm u1.perm).putObj _)));simp [execOp,st.eval hx,st.eval hy,st.eval hv,Instr.mapUpdate,run_underlying h1,getObj,setObj,Sem.run,hw,hck,hfk,Result.andThen,World.putObj]
 ·rw [hn] at hc;cases hc
end
section
variable {P:Program} [Tb P] {F:Fd}{n:y_}{x:Nat->y_}{a b Au:LO}{o o1 ob:LQ}{ops:Array Oper}{rest:LR}{base:Nat}{es0:List Ef}
variable {d k T:Nat}{ty:TypeId}{pos:String}{af:Array Edge}{g:Option (Nat×Bool)}{xo yo vo:Operand}{α:Type} [DecidableEq α] {u:TypeDesc}{mk:α->Value}{es:List α}{s:α}
theorem Mm (hk:Cr a o=some k) (hd:Nat.blt d F.m=true) (kk:Al P F ops n x rest ((d,.mp k)::a) ((k,.set [])::o)):Al P F ops n x (⟨some d,.makeMap T none,ty,pos,af,none⟩::rest) a o:=.mk λρ h S L cz=>by
 refine JL.makeMap hd (λbb=>?_);have c':=cz.eqv hk (ρ.K9 k bb);exact kk.k (ρ.Hs k bb) h _ _ (cF (u:=.mp k) (⟨c'.t,c'.s,_,L,U,⟨#[],0,by rw [gS],U⟩,c'.o⟩:Cz P (ρ.Hs k bb) h a ((k,.set [])::o) S (.obj bb (.map #[] 0)::L)) (by show _=_;rw [gS]) d)
theorem yi.a3P (hK:Hk u mk) (hx:z' a xo=some (.mp k)) (hy:z' a yo=some (.d (.v (mk s)))) (hk:BH o k=some (.set (es.map mk))) (hT:KN P T u=true) (hg:Cc ops a g=some true) (hd:Nat.blt d F.m=true) :
 yi P F ops a o ⟨some d,.lookup T xo yo false,ty,pos,af,g⟩ d (.d (.bq (es.any λt=>decide (t=s)))):=.run hg hd λρ h S L cz=>by
 obtain⟨v,h1,h2⟩:=bv cz hx;cases h2;obtain⟨y,L',hD,⟨arr,cl,rfl,he⟩,hr⟩:=cz.o.get hk;exact⟨_,xG.a2c hK hT h1 (bR cz hy) hD.mem he,(cC (h:=h)).2 U⟩
theorem MuK (hK:Hk u mk) (hx:z' a xo=some (.mp k)) (hy:z' a yo=some (.d (.v (mk s)))) (hv:z' a vo=some (.d (.v (.bool true)))) (hk:BH o k=some (.set (es.map mk))) (hn:(es.any λt=>decide (t=s))=false) (hT:KN P T u=true) (Ip:H7 o k=some o1)
 (kk:Al P F ops n x rest a ((k,.set ((es++[s]).map mk))::o1)):Al P F ops n x (⟨none,.mapUpdate T xo yo vo,ty,pos,af,none⟩::rest) a o:=.mk λρ h S L cz=>by
 obtain rfl:=eZ Ip;obtain⟨v,h1,h2⟩:=bv cz hx;cases h2;obtain⟨y,L',hD,⟨arr,cl,rfl,he⟩,hr⟩:=cz.o.get hk;refine JL.a5q hK hT h1 (bR cz hy) (bR cz hv) hD he hn ?_;exact kk.k ρ h S _ ⟨cz.t,cz.s,_,L',U,⟨_,_,U,by simp [he]⟩,hr⟩
theorem yi.look {s:yG}{es:List yG}(hx:z' a xo=some (.mp k)) (hy:z' a yo=some (.d (.v (.string ⟨⟨s⟩⟩)))) (hk:BH o k=some (.set (es.map MR))) (hT:KN P T .string=true) (hg:Cc ops a g=some true) (hd:Nat.blt d F.m=true) :
 yi P F ops a o ⟨some d,.lookup T xo yo false,ty,pos,af,g⟩ d (.d (.bq (es.any λt=>decide (t=s)))):=.a3P Rc hx hy hk hT hg hd
theorem Mu {s:yG}{es:List yG}(hx:z' a xo=some (.mp k)) (hy:z' a yo=some (.d (.v (.string ⟨⟨s⟩⟩)))) (hv:z' a vo=some (.d (.v (.bool true)))) (hk:BH o k=some (.set (es.map MR))) (hn:(es.any λt=>decide (t=s))=false) (hT:KN P T .string=true) (Ip:H7 o k=some o1)
 (kk:Al P F ops n x rest a ((k,.set ((es++[s]).map MR))::o1)):Al P F ops n x (⟨none,.mapUpdate T xo yo vo,ty,pos,af,none⟩::rest) a o:=MuK Rc hx hy hv hk hn hT Ip kk
end
abbrev N9:yG:=[49,46,50,46,56,52,48,46,49,49,51,53,52,57,46,49,46,55,46,49]
abbrev Ad:yG:=[49,46,50,46,56,52,48,46,49,49,51,53,52,57,46,49,46,55,46,50]
theorem nL (c:yG):yq prog 32 [.st (Sd.enc ⟨N9,true,c,[],[],[]⟩)] (.i 1):=by
 refine an func32 U ntmps32 U (λe=>?_);refine W ?_;refine Lp (γ:=Unit) (λ_=>True) (λ_=>0) (λ_=>[(10,.d (.i 0)),(11,.d (.i 0))]) (λ_=>[]) () trivial y9 trivial ?_;rintro _ _;exact m10
instance:Cn prog 32 (type_of% @nL):=⟨@nL⟩
abbrev A1:D:=.v (.slice none 0 0)
theorem Yo:yq prog 322 [A1,.i 0,.i 0,KU 189] (.v (.tuple #[])):=by
 refine an func322 U ntmps322 U (λe=>?_);refine W ?_;refine Lp (λ_:Unit=>True) (λ_=>0) (λ_=>[(2,.d (.i 0)),(8,.d (.i 1))]) (λ_=>[]) () trivial y9 trivial ?_;rintro _ _;exact m63
instance:Cn prog 322 (type_of% @Yo):=⟨@Yo⟩
theorem Wa:yq prog 269 [A1,.i 0,KU 189] (.v (.tuple #[])):=by
 refine an func269 U ntmps269 U (λe=>?_);refine W ?_;refine Lp (λ_:Unit=>True) (λ_=>0) (λ_=>[(0,.d A1),(1,.d (.i 0)),(2,.d (KU 189)),(6,.d (.i 20)),(7,.d (.i 0)),(8,.d (.i 20))]) (λ_=>[]) () trivial y9 trivial ?_;rintro _ _;refine W ?_;refine Lp (λ_:Unit=>True) (λ_=>0) (λ_=>[(1,.d (.i 0)),(6,.d (.i 20))]) (λ_=>[]) () trivial y9 trivial ?_;rintro _ _;exact m63
instance:Cn prog 269 (type_of% @Wa):=⟨@Wa⟩
theorem We:yq prog 188 [A1,KU 189] (.v (.tuple #[])):=by
 refine an func188 U ntmps188 U (λe=>?_);exact m63
instance:Cn prog 188 (type_of% @We):=⟨@We⟩
theorem Wo:yq prog 86 [.AX []] (.zZ [.nd (.mk 0 17 true [] []),.i 0]):=by
 have ho:=@a3H [] (by simp [Nd.yP]);refine an func86 U ntmps86 U (λe=>?_);refine W ?_;refine Lp (γ:=Unit) (λ_=>True) (λ_=>0) (λ_=>[(2,.own 0 0),(4,.d A1),(14,.d (.i 0)),(15,.d (.i 0))]) (λ_=>[(0,.var 33 [.d (.i 0),.d (.i 0),.d (.b false),.d A1,.d A1])]) () trivial y9 y9 ?_;rintro _ _;refine W ?_;refine Lp (γ:=Unit) (λ_=>True) (λ_=>0) (λ_=>[(2,.own 0 0),(9,.own 1 0),(40,.d (.i 0)),(41,.d (.i 0))]) (λ_=>[(1,.B1 33 (.st [.i 0,.i 17,.v (.bool true),A1,A1])),(0,.var 33 [.d (.i 0),.d (.i 0),.d (.b false),.d A1,.d A1])]) () trivial y9 y9 ?_;rintro _ _;exact m10
instance:Cn prog 86 (type_of% @Wo):=⟨@Wo⟩
theorem nR (t c:yG) (h:Bool):yq prog 35 [.st (Sd.enc ⟨t,h,c,[],[],[]⟩)] (.nd (.mk 0 17 true [] [])):=by
 refine an func35 U ntmps35 U (λe=>?_);refine W ?_;refine Mm U U ?_;refine W ?_;refine Lp (γ:=Unit) (λ_=>True) (λ_=>0) (λ_=>[(2,.own 1 0),(4,.d A1),(12,.d (.i 0)),(13,.d (.i 0))]) (λ_=>[(1,.var 33 [.d (.i 0),.d (.i 0),.d (.b false),.d A1,.d A1])]) () trivial y9 y9 ?_;rintro _ _;exact m10
instance:Cn prog 35 (type_of% @nR):=⟨@nR⟩
section
set_option pp.deepTerms true
set_option pp.maxSteps 100000
theorem Rj (n:Int):yq prog 120 [.i n] (.nd (.mk 0 2 false (B2 n) [])):=a8G n
instance:Cn prog 120 (type_of% @Rj):=⟨@Rj⟩
theorem vS (l:LN) (hz:Nd.yP l<=1099511627776):FnO prog 117 33 kN [.AX l] [.i 0,.i 16,.v (.bool true),A1] l:=.mk λh vs hT hd=>by
 obtain⟨v,rfl,h1⟩:=ll hd;obtain⟨a,cc,rfl,hR⟩:=dy.1 h1;have hb:=hR.GX;exact(ZA hT hR hz).mono λe h' Lo _ ⟨v,he,a',c',xs,e1,e2,e3⟩=>⟨v,he,[.int .i64 0,.int .i64 16,.bool true,.slice none 0 0],a',c',xs,e1,.c U (bh (h:=h')) (.c U (bh (h:=h')) (.c U (bh (h:=h')) (.c U (bh (h:=h')) .n))),e2,e3,hb⟩
end
abbrev b0t:Nd:=.mk 0 2 false (B2 1) []
abbrev a64:Nd:=.mk 0 17 true [] []
abbrev b0r:Nd:=.mk 0 4 false [5] []
abbrev b0u:Nd:=.mk 2 0 true [] [b0r]
abbrev a8C:Nd:=.mk 0 16 true [] [Ay N9,b0u]
abbrev kIn:Nd:=.mk 0 16 true [] [b0t,a64,a8C,a64]
abbrev b0s:Nd:=.mk 2 0 true [] [kIn]
abbrev Yg:Nd:=.mk 0 16 true [] [Ay Ad,b0s]
abbrev kSd:Sd:=⟨N9,true,[5],[],[],[]⟩
def knB:yG:=Yg.wr.1
theorem a2i:(knB.length:Int)=42:=by kernel_rfl
theorem a8A:((knB.getD 1 default).toNat:Int)=40:=by kernel_rfl
theorem tn:Yg.wr=(knB,0):=by
 have:Yg.wr.2=0:=by kernel_rfl
 rw [<- this];rfl
theorem pB {x:Nd}(hz:x.sz<=1073741824):yq prog 31 [.nd x] (.zZ [.i x.D7,.b x.AA]):=.mk λh vs hT hd=>by
 obtain⟨v,rfl,h1⟩:=ll hd;obtain⟨cs,rfl,hR⟩:=fw.1 h1;exact(Yl hR hT hz).d (rE (bh (h:=h)) ((cC (h:=h)).2 U))
theorem a2J {l r:yG}:yq prog 33 [.bs l,.bs r] (.b (decide (l=r))):=.mk λh vs hT hd=>by
 obtain⟨v,w,rfl,h1,h2⟩:=Zf hd;obtain⟨a,cc,rfl,hR⟩:=AU.1 h1;obtain⟨a',cc',rfl,hR'⟩:=AU.1 h2;exact(UH hR hR').d ((cC (h:=h)).2 U)
theorem yq.to  [Tb P] {Fi:Nat}{ds:List D}{d d':D}(c:yq P Fi ds d) (h:d=d'):yq P Fi ds d':=h ▸ c
def IP (f:Fe):Prop:=(f.zJ.length<=400000/\(Ay f.zJ).sz<=200000)/\f.yB.length<=400000/\∀ v∈f.yB,v.length<=100000
theorem jz (h:IP f):(yS f).sz<=1100000:=by
 unfold yS;cases hb:Ck f with
 |false=>simp [DU,Nd.sz,Nd.yP]
 |true =>
  have h8:f.yB.length<=8:=by
   simp only [Ck,xB,a_] at hb;omega
  have h1:=Oh 100000 f.yB h.2.2;have h2:Nd.yP (f.yB.map λv=>(xN v).1)<=8*100001:=xJ h1 (aT _ h8);have h4:=h.1.2;simp only [if_true,HK,Nd.sz,Nd.yP,ay];omega
def Vf (f:Fe):yG:=if Bv f≠0 then [] else(yS f).wr.1
def NH (f:Fe):yG:=if Bv f≠0 then [] else(yS f).put.getD []
theorem fb (f:Fe) (h:IP f):yq prog 138 [.st f.enc] (.bs (Vf f)):=by
 have hz:=jz h;have hc:=eW f (xJ h.1.1 xE) (xJ h.2.1 xE) (λv hv=>xJ (h.2.2 v hv) xE);unfold Vf;exact an func138 U ntmps138 U (λe=>Z)
instance:Cn prog 138 (type_of% @fb):=⟨@fb⟩
theorem kh (n:Nd) (hz:n.sz<=100000000):yq prog 149 [.nd n] (.bs (n.put.getD [])):=by
 exact an func149 U ntmps149 U (λe=>Z)
instance:Cn prog 149 (type_of% @kh):=⟨@kh⟩
theorem gt (f:Fe) (h:IP f):yq prog 235 [.st f.enc] (.bs (NH f)):=by
 have hz:=jz h;have hc:=fH f (xJ h.1.1 xE) (xJ h.2.1 xE) (λv hv=>xJ (h.2.2 v hv) xE);unfold NH;exact an func235 U ntmps235 U (λe=>Z)
instance:Cn prog 235 (type_of% @gt):=⟨@gt⟩
variable{l:List Fe}
theorem lN {i:Nat}(h:i<l.length):(l.map Vf).getD i []=Vf (l.getD i default):=by
 rw [aU (by rw [aq];exact h),Ba,aU h]
theorem rz (hB:∀ f∈l,IP f) (i:Nat):IP (l.getD i default):=by
 by_cases h:i<l.length
 ·rw [aU h];exact hB _ (ax h)
 ·rw [aJ,bu xE];exact⟨⟨yQ _,xJ (dD []) yD⟩,yQ _,λv hv=>by cases hv⟩
theorem jd (l:List Fe) (hl:l.length<=1073741824) (hB:∀ f∈l,IP f):yq prog 250 [.sl 2 Fe.enc l,KU 138,.b false] (.b (E5 (l.map Vf))):=by
 have hs:=rz hB;refine an func250 U ntmps250 U (λe=>?_);refine W ?_;refine Lp (γ:=Nat) (λg=>(g=0\/g+1<=l.length)/\IC (l.map Vf) g) (λg=>l.length+1-g) (λg=>[(0,.d (.sl 2 Fe.enc l)),(1,.d (KU 138)),(2,.d (.b false)),(7,.d (.i ((g:Int)+1)))]) (λ_=>[]) 0 ⟨.inl U,λj hj=>by omega⟩ y9 trivial ?_;rintro g ⟨hg,ho⟩;have c1:=fb (l.getD ((g:Int)+1-1).toNat default) (hs _);have c2:=fb (l.getD (g+1) default) (hs _);refine W ?_;refine Ci U (λh=>?_) (λh=>?_)
 ·refine W ?_;have My:((g:Int)+1-1).toNat=g:=by omega
  refine Bg U U (λh2=>?_) (λh2=>?_)
  ·rw [My,<- lN xE,<- lN xE] at h2;have hb:E5 (l.map Vf)=false:=by
    refine ah λhh=>hh g (by rw [aq];omega) h2
   exact m127
  rw [My,<- lN xE,<- lN xE] at h2;exact m41
 ·have hb:E5 (l.map Vf)=true:=ae λj hj=>ho j (by rw [aq] at hj;omega);exact m127
instance:Cn prog 250 (type_of% @jd):=⟨@jd⟩
theorem nH (h:Ck f=true):(yS f).put.isSome=true:=by
 have h':=h;simp only [Ck,xB,a_] at h';obtain⟨⟨⟨⟨h1,h2⟩,h3⟩,h4⟩,h5⟩:=h';have hp:∀ v∈f.yB,(xN v).1.put=some v:=λv hv=>by
  have h6:=xH.1 h4 v hv;simp only [EM,xB,a_] at h6;have h7:=wO h6.1;have h8:=lY (n:=(xN v).1) (by rw [h7]);rw [h7] at h8;exact h8
 have e1:(f.yB.map λv=>(xN v).1).map (λk=>k.put.getD [])=f.yB:=by
  rw [yv];conv=>rhs;rw [<- Ag f.yB]
  exact xO λv hv=>by simp only [Function.comp,hp v hv];rfl
 have e2:(f.yB.map λv=>(xN v).1).all (·.put.isSome)=true:=by
  rw [zp,xH];intro v hv;simp only [Function.comp,hp v hv];rfl
 unfold yS;rw [xD h,dx,ya,gx h1,ya];unfold HK;rw [mn,e2,e1,h5];rfl
theorem Hv {B:Nat}:∀ {l:LN},(∀ k∈l,k.rk<=B)->Nd.CO l<=B
 |[],_=>by simp [Nd.CO]
 |k::r,h=>by
  have h1:=h k (aC ..);have h2:=Hv (l:=r) λk hk=>h k (aE _ hk);simp only [Nd.CO];omega
theorem Uh (h:Ck f=true):(yS f).rk<=22:=by
 have h':=h;simp only [Ck,xB,a_] at h';obtain⟨⟨⟨⟨h1,h2⟩,h3⟩,h4⟩,h5⟩:=h';have hv:Nd.CO (f.yB.map λv=>(xN v).1)<=20:=Hv λk hk=>by
  obtain⟨v,hv,rfl⟩:=y'.1 hk;have h6:=xH.1 h4 v hv;simp only [EM,xB,a_] at h6;omega
 unfold yS;rw [xD h];simp only [HK,Nd.rk,Nd.CO];have:(Ay f.zJ).rk=1:=by unfold Ay;first|rfl|simp [Nd.rk,Nd.CO]
 omega
theorem ry (hs:IP f) (h:Ck f=true):(yS f).wr=((yS f).put.getD [],0)/\2<=((yS f).put.getD []).length:=by
 obtain⟨b,hb⟩:=yE.1 (nH h);have h1:=jz hs;have h2:=dA _ (yS f) b (aB _) hb;have h3:=Uh h;rw [hb];refine⟨?_,h2.1⟩;unfold Nd.wr;rw [hb];simp only;rw [xC xE,xC xE];rfl
theorem a2F (hs:IP f):Vf f=NH f:=by
 unfold Vf NH;by_cases h:Bv f=0
 ·rw [xC (by simp [h]),xC (by simp [h]),(ry hs (fX.1 h)).1]
 ·rw [xD h,xD h]
theorem a6z (hs:IP f):(NH f).length=0<->Bv f≠0:=by
 unfold NH;by_cases h:Bv f=0
 ·have:=(ry hs (fX.1 h)).2;rw [xC (by simp [h])];exact⟨λhh=>by omega,λhh=>absurd h hh⟩
 ·rw [xD h];exact⟨λ_=>h,λ_=>rfl⟩
def Gx:List yG->List Fe->Bool
 |_,[]=>true
 |es,f::r=>if Bv f≠0 then false else if(es.any λt=>decide (t=f.zJ))=true then false else Gx (es++[f.zJ]) r
def MZ (l:List Fe):Bool:=if 16<(l.length:Int) then false else if E5 (l.map Vf)=false then false else Gx [] l
def LW:Nat->List yG->yG->List Fe->Bool
 |_,_,_,[]=>true
 |i,es,prev,f::r=>if 16<=(i:Int) then false else if((NH f).length:Int)=0 then false else if 0<Go.Lib.compareBytes prev (NH f) then false else if(es.any λt=>decide (t=f.zJ))=true then false else LW (i+1) (es++[f.zJ]) (NH f) r
theorem Qu:∀ (l:List Fe) (i:Nat) (es:List yG) (prev:yG),(∀ f∈l,IP f)->LW i es prev l=(decide (l=[]\/i+l.length<=16)&&E5 (prev::l.map NH)&&Gx es l)
 |[],i,es,prev,_=>by simp [LW,Gx,E5,IC]
 |f::r,i,es,prev,h=>by
  have ih:=Qu r (i+1) (es++[f.zJ]) (NH f) λg hg=>h g (aE _ hg);have hl:=a6z (h f (aC ..));rw [yy,oO];simp only [LW,Gx];by_cases h1:16<=(i:Int)
  ·rw [xD h1,ah (by simp;omega)];simp
  rw [xC h1];by_cases h2:Bv f=0
  ·rw [xC (show ¬ ((NH f).length:Int)=0 by have:=mt hl.1 (by simp [h2]);omega),xC (show ¬ Bv f≠0 by simp [h2])];by_cases h3:0<Go.Lib.compareBytes prev (NH f)
   ·rw [xD h3,ae h3];simp
   ·rw [xC h3,ah h3];by_cases h4:(es.any λt=>decide (t=f.zJ))=true
    ·rw [xD h4,xD h4];simp
    ·rw [xC h4,xC h4,ih];have:(r=[]\/i+1+r.length<=16)<->(f::r=[]\/i+(f::r).length<=16):=by
      constructor
      ·rintro(hr|hr)
       ·subst hr;right;simp;omega
       ·right;simp;omega
      ·rintro(hr|hr)
       ·cases hr
       ·right;simp at hr;omega
     rw [show decide (r=[]\/i+1+r.length<=16)=decide (f::r=[]\/i+(f::r).length<=16) from y7.2 this];simp
  ·rw [xD (by have:=hl.2 h2;omega),xD h2];simp
theorem a32 (y:yG):¬ 0<Go.Lib.compareBytes [] y:=by cases y<;>simp [Go.Lib.compareBytes]
theorem a1L (l:List yG):E5 ([]::l)=E5 l:=by
 cases l with
 |nil=>rfl
 |cons y r=>rw [oO,ah (a32 y)];simp
theorem Qq (h:∀ f∈l,IP f):LW 0 [] [] l=MZ l:=by
 rw [Qu l 0 [] [] h,a1L];have e:l.map Vf=l.map NH:=xO λf hf=>a2F (h f hf);unfold MZ;rw [e];by_cases h1:16<(l.length:Int)
 ·rw [xD h1,ah (by rintro(hh|hh);(subst hh;simp at h1);omega)];simp
 ·rw [xC h1,ae (by right;omega)];cases E5 (l.map NH)<;>simp
theorem dF (l:List Fe) (hl:l.length<=400000) (hB:∀ f∈l,IP f):yq prog 157 [.sl 2 Fe.enc l] (.b (MZ l)):=by
 have hs:=rz hB;have ho:=jd l xE hB;refine an func157 U ntmps157 U (λe=>?_);refine W ?_;refine Bg U U (λh=>?_) (λh=>?_)
 ·refine W ?_;refine Rt U U ?_;unfold MZ;rw [xD h];rfl
 refine W ?_;refine Ci U (λh2=>?_) (λh2=>?_)
 ·refine W ?_;refine Rt U U ?_;unfold MZ;rw [xC h,xD h2];rfl
 refine W ?_;refine Mm U U ?_;refine W ?_;have fin:Gx [] l=MZ l:=by
  unfold MZ;rw [xC h,xC (by rw [h2];simp)]
 refine Lp (γ:=Nat) (λg=>g<=l.length/\Gx [] l=Gx ((l.take g).map (·.zJ)) (l.drop g)) (λg=>l.length+1-g) (λg=>[(3,.mp 0),(17,.d (.sl 2 Fe.enc l)),(18,.d (.i (l.length:Int))),(19,.d (.i (g:Int)))]) (λg=>[(0,.set (((l.take g).map (·.zJ)).map MR))]) 0 ⟨by omega,U⟩ y9 y9 ?_;rintro g ⟨hg,hf⟩;have P9:=hs g;have c1:=eW (l.getD g default) (xJ P9.1.1 xE) (xJ P9.2.1 xE) (λv hv=>xJ (P9.2.2 v hv) xE);refine W ?_;refine Ci U (λh3=>?_) (λh3=>?_)
 ·have yJ:g<l.length:=by omega
  have yL:l.getD g default=l[g]:=aU yJ;have U5:l.drop g=l.getD g default::l.drop (g+1):=by rw [aL yJ,yL]
  have EW:(l.take (g+1)).map (·.zJ)=(l.take g).map (·.zJ)++[(l.getD g default).zJ]:=by rw [ai yJ,y8,yL];rfl
  rw [U5] at hf;simp only [Gx] at hf;refine W ?_;refine Bg U U (λh4=>?_) (λh4=>?_)
  ·rw [xD h4] at hf;refine W ?_;refine Rt U U ?_;rw [<- fin,hf];rfl
  rw [xC (show ¬ Bv (l.getD g default)≠0 from λhh=>hh h4)] at hf;refine W ?_;refine aI (yi.look U U U U U U) ?_;refine W ?_;refine Ci U (λh5=>?_) (λh5=>?_)
  ·rw [xD h5] at hf;refine W ?_;refine Rt U U ?_;rw [<- fin,hf];rfl
  rw [xC (by rw [h5];simp)] at hf;exact m75
 ·refine W ?_;refine Rt U U ?_;rw [<- fin,hf,yw xE];rfl
instance:Cn prog 157 (type_of% @dF):=⟨@dF⟩
theorem Nl  [Tb P] {F:Fd}{n:y_}{x:Nat->y_}{a:LO}{o:LQ}{c:Code}(t:Nat) (d:D) (hx:BF a t=some (.d (.v (.slice none 0 0)))) (hd:∀ h,Den d h (.slice none 0 0)) (kk:JD P F c n x ((t,.d d)::a) o):JD P F c n x a o:=.mk λρ h S L cz=>by
 have h1:look S t=some (.slice none 0 0):=bR (y:=.tmp t) cz hx;refine kk.k ρ h _ _ ⟨cz.t,λu y hy=>?_,cz.o⟩;simp only [BF] at hy;cases hq:Nat.beq t u with
 |true =>
  obtain rfl:=am hq;simp only [hq,cond_true,au] at hy;subst hy;exact⟨_,h1,hd h⟩
 |false=>simp only [hq,cond_false] at hy;exact cz.s u y hy
theorem Up (h:Part):Den (.bs []) h (.slice none 0 0):=(AU (h:=h)).2 ⟨none,0,U,bA⟩
theorem eI (l:List Fe) (hl:l.length<=400000) (hB:∀ f∈l,IP f):yq prog 287 [.sl 2 Fe.enc l] (.b (LW 0 [] [] l)):=by
 have hs:=rz hB;refine an func287 U ntmps287 U (λe=>?_);refine W ?_;refine Nl 3 (.bs []) U Up ?_;refine Lp (γ:=Nat×yG) (λk=>k.1<=l.length/\LW 0 [] [] l=LW k.1 ((l.take k.1).map (·.zJ)) k.2 (l.drop k.1)) (λk=>l.length+1-k.1) (λk=>[(0,.d (.sl 2 Fe.enc l)),(3,.d (.bs k.2)),(4,.d (.i (k.1:Int)))]) (λ_=>[]) (0,[]) ⟨by omega,U⟩ y9 trivial ?_;rintro⟨g,prev⟩ ⟨hg,hf⟩;dsimp only at hg hf;show JD _ _ _ _ _ [(0,.d (.sl 2 Fe.enc l)),(3,.d (.bs prev)),(4,.d (.i (g:Int)))] [];have P9:=hs g;have c1:=gt (l.getD g default) P9;refine W ?_;refine Ci U (λh3=>?_) (λh3=>?_)
 ·have yJ:g<l.length:=by omega
  have yL:l.getD g default=l[g]:=aU yJ;have U5:l.drop g=l.getD g default::l.drop (g+1):=by rw [aL yJ,yL]
  have EW:(l.take (g+1)).map (·.zJ)=(l.take g).map (·.zJ)++[(l.getD g default).zJ]:=by rw [ai yJ,y8,yL];rfl
  rw [U5] at hf;simp only [LW] at hf;refine W ?_;refine Bg U U (λh4=>?_) (λh4=>?_)
  ·rw [xD h4] at hf;exact m178
  rw [xC h4] at hf;refine W ?_;refine Bg U U (λh5=>?_) (λh5=>?_)
  ·rw [xD h5] at hf;exact m178
  rw [xC h5] at hf;refine W ?_;refine Ci U (λh6=>?_) (λh6=>?_)
  ·rw [xD h6] at hf;exact m178
  rw [xC h6] at hf;refine W ?_;refine Lp (γ:=Nat) (λj=>j<=g/\(((l.take j).map (·.zJ)).any λt=>decide (t=(l.getD g default).zJ))=false) (λj=>g+1-j) (λj=>[(0,.d (.sl 2 Fe.enc l)),(4,.d (.i (g:Int))),(5,.d (.bs (NH (l.getD g default)))),(6,.d (.i (j:Int)))]) (λ_=>[]) 0 ⟨by omega,U⟩ y9 trivial ?_;rintro j ⟨hj,ha⟩;refine W ?_;refine Ci U (λh7=>?_) (λh7=>?_)
  ·have a6h:j<l.length:=by omega
   have htj:(l.take (j+1)).map (·.zJ)=(l.take j).map (·.zJ)++[(l.getD j default).zJ]:=by rw [ai a6h,y8,aU a6h];rfl
   refine W ?_;refine Ci U (λh8=>?_) (λh8=>?_)
   ·refine W ?_;refine Rt U U ?_;rw [hf,xD]
    ·rfl
    ·rw [BQ];refine⟨(l.getD j default).zJ,y'.2 ⟨l.getD j default,?_,U⟩,ae h8⟩;rw [aU a6h,List.mem_take_iff_getElem];exact⟨j,by omega,U⟩
   ·refine W ?_;refine⟨j+1,by omega,⟨by omega,?_⟩,y9,trivial⟩;rw [htj,List.any_append,ha];simp only [List.any_cons,List.any_nil,ah h8,Ic]
  ·obtain rfl:j=g:=by omega
   rw [ha,xC (by simp),<- EW] at hf;refine W ?_;exact⟨(j+1,NH (l.getD j default)),by simp only;omega,⟨by simp only;omega,hf⟩,y9,trivial⟩
 ·refine W ?_;refine Rt U U ?_;rw [hf,yw xE];rfl
instance:Cn prog 287 (type_of% @eI):=⟨@eI⟩
def vW:List yG->Nat
 |[]=>0
 |v::r=>1+v.length+vW r
def fW:List Fe->Nat
 |[]=>0
 |f::r=>1+f.zJ.length+vW f.yB+fW r
theorem YY (m:Int):∀ (l:List yG) (n:Int),Pm m l n<=m->Pm m l n=n+vW l
 |[],n,_=>by simp [Pm,vW]
 |v::r,n,h=>by
  simp only [Pm] at h |-
  split at h
  ·rename_i hn;rw [xD hn,YY m r _ h];simp only [vW];omega
  ·omega
theorem Pn (m:Int):∀ (l:List Fe) (n:Int),O7 m l n<=m->O7 m l n=n+fW l
 |[],n,_=>by simp [O7,fW]
 |f::r,n,h=>by
  simp only [O7] at h |-
  split at h
  ·rename_i hn;rw [xD hn];have h1:Pm m f.yB (n+1+f.zJ.length)<=m:=by
    by_cases hh:m<Pm m f.yB (n+1+f.zJ.length)
    ·rw [vx m _ hh] at h;exact h
    ·omega
   rw [Pn m r _ h,YY m _ _ h1];simp only [fW];omega
  ·omega
theorem a3r:∀ (l:List yG),l.length<=vW l/\∀ v∈l,v.length<=vW l
 |[]=>⟨aB _,λv hv=>by cases hv⟩
 |v::r=>by
  have h:=a3r r;refine⟨by simp only [vW,aw];omega,λw hw=>?_⟩;simp only [vW];cases hw with
  |head=>omega
  |tail _ hw=>have:=h.2 w hw;omega
theorem a41:∀ (l:List Fe),l.length<=fW l/\∀ f∈l,f.zJ.length+vW f.yB<=fW l
 |[]=>⟨aB _,λv hv=>by cases hv⟩
 |f::r=>by
  have h:=a41 r;refine⟨by simp only [fW,aw];omega,λw hw=>?_⟩;simp only [fW];cases hw with
  |head=>omega
  |tail _ hw=>have:=h.2 w hw;omega
theorem uh:∀ (l:List yG),Nd.yP (l.map λv=>(xN v).1)<=vW l
 |[]=>by simp [Nd.yP]
 |v::r=>by
  have h1:=fI v;have h2:=uh r;simp only [yy,Nd.yP,vW];omega
theorem jR:∀ (l:List Fe),Nd.yP (l.map yS)<=26*fW l
 |[]=>by simp [Nd.yP]
 |f::r=>by
  have h1:=uh f.yB;have h2:=jR r;have h3:=dD f.zJ;have h4:(yS f).sz<=26*(1+f.zJ.length+vW f.yB):=by
   unfold yS;split
   ·simp only [HK,Nd.sz,Nd.yP,ay];omega
   ·simp [DU,Nd.sz,Nd.yP];omega
  simp only [yy,Nd.yP,fW];omega
theorem f_ (l:List Fe) (hl:l.length<=400000) (hB:∀ f∈l,IP f):yq prog 225 [.sl 2 Fe.enc l] (.AX (l.map yS)):=by
 have hs:=rz hB;refine an func225 U ntmps225 U (λe=>?_);refine W ?_;refine Rn kN 3 33 U U ?_;refine Lp (γ:=Nat) (λg=>g<=l.length) (λg=>l.length+1-g) (λg=>[(3,.row 0),(8,.d (.sl 2 Fe.enc l)),(9,.d (.i (l.length:Int))),(10,.d (.i (g:Int)))]) (λg=>[(0,.row 33 (.AX ((l.take g).map yS)))]) 0 xE y9 y9 ?_;intro g hg;have P9:=hs g;have c1:=eW (l.getD g default) (xJ P9.1.1 xE) (xJ P9.2.1 xE) (λv hv=>xJ (P9.2.2 v hv) xE);exact m197
instance:Cn prog 225 (type_of% @f_):=⟨@f_⟩
theorem lA (l:List Fe) (hl:l.length<=400000) (hB:∀ f∈l,IP f):yq prog 211 [.sl 2 Fe.enc l] (.AX (l.map yS)):=by
 have hs:=rz hB;refine an func211 U ntmps211 U (λe=>?_);refine W ?_;refine Rn kN 3 33 U U ?_;refine Lp (γ:=Nat) (λg=>g<=l.length) (λg=>l.length+1-g) (λg=>[(0,.d (.sl 2 Fe.enc l)),(3,.row 0),(4,.d (.i (g:Int)))]) (λg=>[(0,.row 33 (.AX ((l.take g).map yS)))]) 0 xE y9 y9 ?_;intro g hg;have P9:=hs g;have c1:=fH (l.getD g default) (xJ P9.1.1 xE) (xJ P9.2.1 xE) (λv hv=>xJ (P9.2.2 v hv) xE);exact m197
instance:Cn prog 211 (type_of% @lA):=⟨@lA⟩
theorem uq:∀ (l:List Fe) (es:List yG),Gx es l=true->∀ f∈l,Bv f=0
 |[],_,_,f,hf=>by cases hf
 |f::r,es,h,g,hg=>by
  simp only [Gx] at h;split at h
  ·cases h
  ·rename_i h1;split at h
   ·cases h
   ·cases hg with
    |head=>exact xM.1 h1
    |tail _ hg=>exact uq r _ h g hg
theorem qj (n:Int):yq prog 156 [.i n] (.i (A6 n)):=.mk λh vs hT hd=>by
 obtain⟨v,rfl,h1⟩:=ll hd;rw [cY.1 h1];exact wG.mono λv h' _ e=>⟨_,U,by rw [e];exact bh (h:=h')⟩
instance:Cn prog 156 (type_of% @qj):=⟨@qj⟩
theorem jX (n:Int):yq prog 201 [.i n] (.i (A6 n)):=.mk λh vs hT hd=>by
 obtain⟨v,rfl,h1⟩:=ll hd;rw [cY.1 h1];exact sx.mono λv h' _ e=>⟨_,U,by rw [e];exact bh (h:=h')⟩
instance:Cn prog 201 (type_of% @jX):=⟨@jX⟩
theorem uk (n:Int):yq prog 186 [.i n] (.s (Dz n)):=by
 unfold Dz;exact an func186 U ntmps186 U (λe=>Y)
instance:Cn prog 186 (type_of% @uk):=⟨@uk⟩
theorem qu (n:Int):yq prog 207 [.i n] (.s (Dz n)):=by
 have c:=jX n;by_cases h:n=256\/n=384\/n=512
 ·rcases h with rfl|rfl|rfl
  ·rw [show A6 256=32 by kernel_rfl] at c;exact m134
  ·rw [show A6 384=48 by kernel_rfl] at c;exact m134
  ·rw [show A6 512=64 by kernel_rfl] at c;exact m134
 ·rw [show A6 n=0 from xC h] at c;rw [show Dz n=[] by unfold Dz;rw [xC xE,xC xE,xC xE]];exact m134
instance:Cn prog 207 (type_of% @qu):=⟨@qu⟩
def Dl (n:Int):Nd:=.mk 0 16 true [] [Ay (Dz n)]
theorem rP (n:Int):yq prog 85 [.i n] (.nd (Dl n)):=by
 have h1:=oV n;have h2:=dD (Dz n);have h3:=vT [Ay (Dz n)] (by simp only [Nd.yP];omega);have h4:=rJ (Dz n) xE;exact an func85 U ntmps85 U (λe=>Z)
instance:Cn prog 85 (type_of% @rP):=⟨@rP⟩
theorem qG (n:Int):yq prog 102 [.i n] (.nd (Dl n)):=by
 have h1:=oV n;have h3:=qv (l:=[Ay (Dz n)]);have h4:=mc (s:=Dz n) xE;exact an func102 U ntmps102 U (λe=>Z)
instance:Cn prog 102 (type_of% @qG):=⟨@qG⟩
theorem OD (t:Int) (l:LN):yq prog 105 [.i t,.AX l] (.nd (.mk 2 t true [] l)):=by
 exact an func105 U ntmps105 U (λe=>Z)
instance:Cn prog 105 (type_of% @OD):=⟨@OD⟩
theorem qC (b:yG):yq prog 106 [.bs b] (.nd (.mk 0 4 false b [])):=by
 exact an func106 U ntmps106 U (λe=>Z)
instance:Cn prog 106 (type_of% @qC):=⟨@qC⟩
theorem ge {n:Int}(h:AN n):CE n=.mk 0 16 true [] [Ay (Gk n),.mk 0 5 false [] []]:=by
 unfold CE;rw [xD];rcases h with rfl|rfl|rfl<;>kernel_rfl
theorem UP {n:Int}(h:¬ AN n):CE n=DU:=by
 unfold AN at h;have e:Gk n=[]:=by
  unfold Gk;rw [xC xE,xC xE,xC xE]
 unfold CE;rw [e,xC (by rw [show(Ai []).isSome=false by kernel_rfl];simp)]
theorem uQ (n:Int):yq prog 193 [.i n] (.nd (CE n)):=by
 refine an func193 U ntmps193 U (λe=>?_);refine W ?_;refine Ci U (λh=>?_) (λh=>?_)
 ·rw [ge (.inl h)];subst h;exact m164
 refine W ?_;refine Ci U (λh2=>?_) (λh2=>?_)
 ·rw [ge (.inr (.inl h2))];subst h2;exact m164
 refine W ?_;refine Ci U (λh3=>?_) (λh3=>?_)
 ·rw [ge (.inr (.inr h3))];subst h3;exact m164
 rw [UP (by unfold AN;omega)];exact m164
instance:Cn prog 193 (type_of% @uQ):=⟨@uQ⟩
section
attribute [local irreducible] Nat.sub
section
variable {P:Program} [Tb P] {F:Fd}{a:LO}{o:LQ}{ops:Array Oper}{d:Nat}{ty T yt:TypeId}{pos:String}{af:Array Edge}{g:Option (Nat×Bool)}{xo yo:Operand}{p q:Int}{k:IntKind}
theorem yi.b08 (hx:z' a xo=some (.d (.v (.int k p)))) (hy:z' a yo=some (.d (.v (.int k q)))) (h:q≠0) (hg:Cc ops a g=some true) (hd:Nat.blt d F.m=true) :
 yi P F ops a o ⟨some d,.binOp .rem T xo yo yt,ty,pos,af,g⟩ d (.d (.v (.int k (p.tmod q)))):=.bin hx hy (λ_ _ _ h1 h2=>xG.rem h1 h2 h) hg hd
theorem yi.b0' (hx:z' a xo=some (.d (.v (.int .i64 (q-q % 256))))) (hy:z' a yo=some (.d (.v (.int .i64 256)))) (h:-9223372036854775808<=q/\q<=9223372036854775807) (hg:Cc ops a g=some true) (hd:Nat.blt d F.m=true) :
 yi P F ops a o ⟨some d,.binOp .quo T xo yo yt,ty,pos,af,g⟩ d (.d (.v (.int .i64 (q / 256)))):=.bin hx hy (λ_ _ _ h1 h2=>xG.a5n h1 h2 h.1 h.2) hg hd
end
theorem a5b (n:Int) (h0:-9223372036854775808<=n) (h1:n<=9223372036854775807):yq prog 107 [.i n] (.nd (.mk 0 2 false (B2 n) [])):=by
 have rm:Rm:=⟨⟩;refine an func107 U ntmps107 U (λe=>?_);refine V ?_;refine Lk (γ:=Nat×Int) [2] (λ(j,q)=>q=n / 256 ^ j/\-9223372036854775808<=q/\q<=9223372036854775807/\j<=7/\(j=0\/¬ DB n j)) (λ(j,_)=>8-j) (λ(j,q)=>[(0,.d (.i q)),(3,.d (.bs (zU n j)))]) (λ_=>[(0,.var 33 [.d (.i 0),.d (.i 0),.d (.b false),.d (.v (.slice none 0 0)),.d (.v (.slice none 0 0))])]) (0,n) ⟨by simp,h0,h1,by omega,.inl U⟩ U ?_;rintro⟨j,q⟩ ⟨hq,TW,hq1,hj,hfj⟩;have htm:=a0G q;have hil:=d8 n j;have b2a:=d8 n (j+1);have hib:zU n (j+1)=UInt8.ofNat (q % 256).toNat::zU n j:=by rw [hq];rfl
 have GF:((zU n (j+1)).getD 0 0).toNat=(q % 256).toNat:=by rw [hib];simp;omega
 have Va:=pK n j;have hfd:DB n (j+1)<->-128<=q/\q<128:=by rw [hq];unfold DB;rw [Af]
 refine V ?_;refine aI (yi.b08 U U yD U U) ?_;refine V ?_;refine Js [0,2,3] [(4,.d (.i (q % 256)))] U ?_ ?_
 ·refine Ci U (λc=>?_) (λc=>?_)<;>refine V ?_<;>exact⟨Fg,Gt⟩
 refine V ?_;refine aI (yi.b0' U U ⟨by omega,by omega⟩ U U) ?_;refine V ?_;refine Pl 1 U ?_;rw [show kB.f ([UInt8.ofNat (q % 256).toNat]++zU n j)=.bs (zU n (j+1)) by rw [hib];rfl];refine V ?_
 repeat' (first|(refine Bg rfl rfl (λ_=>?_) (λ_=>?_)<;>refine V ?_)|(refine Ci rfl (λ_=>?_) (λ_=>?_)<;>refine V ?_))
 all_goals first
  |(exfalso;omega)
  |(refine Rt rfl rfl ?_;rw [pC n j hj hfj (hfd.2 xE)];rfl)
  |exact⟨(j+1,q / 256),by dsimp only;omega,⟨by rw [Va,hq],by omega,by omega,(by have h8:=a9d n h0 h1;by_cases hj8:j=7;(exfalso;subst hj8;have:=hfd.1 h8;omega);omega),.inr (λhf=>by have:=hfd.1 hf;omega)⟩,Fg,Gt⟩
end
section
variable {P:Program} [Tb P] {F:Fd}{n:y_}{x:Nat->y_}{a a1:LO}{o o1:LQ}{ops:Array Oper}{rest:LR}{e:Env}{m:Nat}{fn:Func}{R:D->Prop}{u:Value}{q:Prop}
variable {d Fi:Nat}{ty:TypeId}{pos:String}{af:Array Edge}{os:Array Operand}{ts:Array TypeId}{ds:List D}
abbrev a1I (u:Value):List PanicEntry:=[{ v:=u,recovered:=false }]
theorem Zo {ds:List D}{vs:LV}{h:Part}(hT:Tb.T P h) (hd:yT ds h vs):Cz P ⟨λ_=>0,λ_=>none,λ_=>0,λ_=>0⟩ h (GL 0 ds) [] (AL 0 vs) []:=by
 exact m24
def a3l (R:D->Prop) (u:Value) (q:Prop):Ending->Part->LE->Prop:=λe h' Lo=>Lo=[]/\((∃ v d,e=.returned v/\R d/\Den d h' v)\/(q/\e=.panicked (a1I u)))
structure SS (P:Program) [Tb P] (Fi:Nat) (ds:List D) (R:D->Prop) (u:Value) (q:Prop):Prop where
 fn:∀ h vs,Tb.T P h->yT ds h vs->Fn P Fi vs h [] (a3l R u q)
def a0l (P:Program) [Tb P] (F:Fd) (u:Value) (a:LO) (o:LQ):Prop:=∀ ρ h S L,Cz P ρ h a o S L->F.p (a1I u) S h L
theorem HB (hp:E4 (EA a os.toList) a o=some (a1,o1)) (ha:Be P a1 os.toList ts.toList=some ds) (c:SS P Fi ds R u q) (kp:q->a0l P F u a1 o1) (k:∀ d',R d'->Al P F ops n x rest ((d,.d d')::a1) o1)
 (hF:yH P Fi=true:=by kernel_rfl) (hd:Nat.blt d F.m=true:=by rfl) :
 Al P F ops n x (⟨some d,.call { callee:=.value (.func Fi),args:=os,argTypes:=ts },ty,pos,af,none⟩::rest) a o:=.mk λρ h S L cz ac w s=>by
 obtain⟨h',L',hle,zt,BG⟩:=dp hp cz s.ok;obtain⟨vs,h3,h4⟩:=cL BG ha;obtain⟨os⟩:=os;refine JL.Kf (f:=F.fr P) (Lr:=L') hF h3 (c.fn h' vs BG.t h4) .nil hd ?_ ?_ ?_ ac w (s.with zt)
 ·rintro _ _ ⟨_,⟨_,_,hh,_⟩|⟨_,hh⟩⟩<;>cases hh
 ·rintro ch h2 Lo zH ⟨rfl,⟨_,_,hh,_⟩|⟨hq,hh⟩⟩
  ·cases hh
  ·cases hh;exact kp hq ρ h2 S L' (BG.mono zH)
 ·rintro v h2 Lo zH ⟨rfl,⟨_,d',hh,h7,h8⟩|⟨_,hh⟩⟩
  ·cases hh;exact(k d' h7).k ρ h2 _ L' (cF (u:=.d d') (BG.mono zH) h8 d)
  ·cases hh
def FX (P:Program) (e:Env) (m:Nat) (fn:Func) (R:D->Prop) (u:Value) (q:Prop):Fd:=⟨e,m,CU P e m fn (a3l R u q),I9 (a3l R u q)⟩
theorem xA (hq:q):a0l P (FX P e m fn R u q) u a o:=λρ h S L _=>⟨[],L,.nil,U,.inr ⟨hq,U⟩⟩
theorem a83 {S:AH}{h:Part}{L:LE}(k:up P (RtD P fn R) S h L) {ac:Act}{w:World}(s:Sat e m S h L ac w):∃ S h' L',Sat e m S h' L' ac w/\CU P e m fn (a3l R u q) S h' L':=by
 obtain⟨S',h',L',s',v,Lo,Lr,h1,h2,v',hv,h3,d,h4,h5⟩:=WC k s;cases hv;exact⟨S',h',L',s',v,Lo,Lr,h1,h2,h3,.inl ⟨v,d,U,h4,h5⟩⟩
theorem RtX {ds:List D}(hp:E4 (Ye o) a o=some (a1,o1)) (hr:KI P a1 o1 fn.results.toList fn.resultTypes.toList=some ds) (hR:R (yR ds)):JD P (FX P e m fn R u q) .ret n x a o:=.mk λρ h S L cz ac w s=>by
 obtain⟨S',h',L',s',hh⟩:=a83 (u:=u) (q:=q) ⟨ρ,a,o,cz,a1,o1,ds,hp,hr,hR⟩ s;exact dm (f:=(FX P e m fn R u q).fr P) (n:=up P n) (x:=λi=>up P (x i)) hh ac w s'
theorem SS.intro {Fi:Nat}{c:Code}{ds:List D}(hf:P.funcs[Fi]?=some fn) (hb:fn.body=some c) (hm:fn.ntmps=m) (hl:Nat.ble ds.length m=true) (k:∀ e,JD P (FX P e m fn R u q) c (RtD P fn R) IM (GL 0 ds) []):SS P Fi ds R u q:=.mk λh vs hT hd=>by
 have hlen:=hd.len;refine aQ hf hb hm (by rw [hlen];exact hl) (λe he=>?_);intro ac w s;refine LG ((k e).k _ h _ _ (Zo hT hd) ac w s) (λex a' w' q=>?_);cases ex with
 |normal=>obtain⟨S',h',L',s',q'⟩:=q;exact a83 q' s'
 |exit i=>obtain⟨S',h',L',s',⟨_,_,_,_,hh⟩,_⟩:=q;exact hh.elim
 |goto i=>obtain⟨S',h',L',s',⟨_,_,_,_,hh⟩⟩:=q;exact hh.elim
 |_=>exact q
theorem SS.to (c:SS P Fi ds R u q) (hq:¬ q):Mt P Fi ds R:=.mk λh vs hT hd=>Fn.mono (c.fn h vs hT hd) λe h' Lo _ k=>by
 obtain⟨hL,⟨v,d,hv,h1,h2⟩|⟨h3,_⟩⟩:=k
 ·exact⟨v,hv,hL,d,h1,h2⟩
 ·exact absurd h3 hq
end
section
variable {P:Program} [Tb P] {F:Fd}{a:LO}{o:LQ}{ops:Array Oper}{d:Nat}{ty T yt:TypeId}{pos:String}{af:Array Edge}{g:Option (Nat×Bool)}{xo yo:Operand}{p q:Int}{k k':IntKind}
theorem yi.a9z (hx:z' a xo=some (.d (.v (.int k p)))) (hy:z' a yo=some (.d (.v (.int k q)))) (hg:Cc ops a g=some true) (hd:Nat.blt d F.m=true) :
 yi P F ops a o ⟨some d,.binOp .and T xo yo yt,ty,pos,af,g⟩ d (.d (.v (.int k (bits .and k p q)))):=.bin hx hy (λ_ _ _ h1 h2=>xG.UN h1 h2) hg hd
theorem yi.bor (hx:z' a xo=some (.d (.v (.int k p)))) (hy:z' a yo=some (.d (.v (.int k q)))) (hg:Cc ops a g=some true) (hd:Nat.blt d F.m=true) :
 yi P F ops a o ⟨some d,.binOp .or T xo yo yt,ty,pos,af,g⟩ d (.d (.v (.int k (bits .or k p q)))):=.bin hx hy (λ_ _ _ h1 h2=>xG.or_ h1 h2) hg hd
theorem yi.a4S (hx:z' a xo=some (.d (.v (.int k p)))) (hy:z' a yo=some (.d (.v (.int k' q)))) (h0:0<=q/\q<=k.bits) (hg:Cc ops a g=some true) (hd:Nat.blt d F.m=true) :
 yi P F ops a o ⟨some d,.binOp .shr T xo yo yt,ty,pos,af,g⟩ d (.d (.v (.int k (p / 2 ^ q.toNat)))):=.bin hx hy (λ_ _ _ h1 h2=>xG.shr h1 h2 h0.1 h0.2) hg hd
theorem yi.b01 (hx:z' a xo=some (.d (.v (.int k p)))) (hy:z' a yo=some (.d (.v (.int k' q)))) (h0:0<=q/\q<=k.bits) (hg:Cc ops a g=some true) (hd:Nat.blt d F.m=true) :
 yi P F ops a o ⟨some d,.binOp .shl T xo yo yt,ty,pos,af,g⟩ d (.d (.v (.int k (k.wrap (p*2 ^ q.toNat))))):=.bin hx hy (λ_ _ _ h1 h2=>xG.shl h1 h2 h0.1 h0.2) hg hd
end
def Ix (n:Nd):Bool:=Dq (kd n 0) 1&&decide ((((kd n 0).bytes.getD 0 0).toNat:Int)=255)
def Iy (n:Nd):Bool:=(kd n 1).AA&&decide ((kd n 1).tag=2)&&decide (0<=(kd n 1).D7)&&decide ((kd n 1).D7<=255)
def Hz (n:Nd):Bool:=xR n 0 2&&(!decide (0<(n.kids.length:Int))||Ix n)&&(!decide ((n.kids.length:Int)=2)||Iy n)
theorem sk (n:Nd) (c0 c1 c2 c3 c4 c5 c6:D) (hz:n.sz<=1000000):Jx prog 348 339 [.nd n] (.st [c0,c1,c2,c3,c4,c5,c6]) [] (λd _=>d=.b (Hz n)):=by
 have k0:=b_ n 0;have k1:=b_ n 1;have hi:=@pB (n.kids.getD 1 (.mk 0 0 false [] [])) xE;unfold Hz Ix Iy kd;refine Jx.intro func348 U ntmps348 U (λe b=>?_);refine W ?_;refine Ci U (λh1=>?_) (λh1=>?_)
 ·exact m25
 have E_:xR n 0 2=true:=by simp_all
 refine W ?_;refine Bg U U (λh2=>?_) (λh2=>?_)
 ·refine W ?_;refine Bg U U (λh3=>?_) (λh3=>?_)
  ·exact m25
  refine W ?_;refine Ci U (λh4=>?_) (λh4=>?_)
  ·exact m25
  have Is:((n.kids.getD 0 (.mk 0 0 false [] [])).bytes.getD 0 0).toNat=255:=by
   have:=h4;omega
  rw [h3.1];refine W ?_;refine Ci U (λh5=>?_) (λh5=>?_)
  ·refine W ?_;refine Bg U U (λh6=>?_) (λh6=>?_)
   ·exact m25
   refine W ?_;refine Bg U U (λh7=>?_) (λh7=>?_)
   ·exact m25
   refine W ?_;refine Bg U U (λh8=>?_) (λh8=>?_)
   ·refine W ?_;exact Ev 1 U U U U U (by simp_all [yR,B5];omega)
   refine W ?_;refine Ci U (λh9=>?_) (λh9=>?_)
   ·exact m25
   exact m25
  ·exact m25
 ·refine W ?_;refine Ci U (λh5=>?_) (λh5=>?_)
  ·exfalso;omega
  exact m25
theorem UF {n:Nd}(h:Dq n 3=true):((n.bytes.getD 0 0).toNat:Int)<=7:=by
 have h3:=(eO h yD).2.2;unfold AJ DM at h3;rw [xC yD,xC yD,xD rfl] at h3;have:=(xV h3);have h8:¬ 7<xF n.bytes 0:=λe=>this.1 (.inr (.inl e));unfold xF at h8;omega
section
variable {P:Program} [Tb P] {F:Fd}{n:y_}{x:Nat->y_}{a:LO}{o:LQ}{ops:Array Oper}{rest:LR}{d:Nat}{ty:TypeId}{pos:String}{af:Array Edge}{g:Option (Nat×Bool)}{q:Op}
theorem Al.ug (hg:Cc ops a g=some true) (k:Al P F ops n x (⟨some d,q,ty,pos,af,none⟩::rest) a o):Al P F ops n x (⟨some d,q,ty,pos,af,g⟩::rest) a o:=.mk λρ h S L cz=>by
 rcases YV cz hg with rfl|⟨j,dj,b,rfl,h3,h4⟩
 ·exact k.k ρ h S L cz
 ·exact JL.guarded h3 h4 (k.k ρ h S L cz)
end
def Cj:yG:=[50,46,53,46,50,57,46,49,57]
def DA:yG:=[50,46,53,46,50,57,46,49,53]
def Ha:yG:=[50,46,53,46,50,57,46,51,55]
def M3:yG:=[50,46,53,46,50,57,46,49,52]
def Dd (n:Nd):Bool:=Dq n 3&&decide (2<=(n.bytes.length:Int))&&decide ((n.bytes.length:Int)<=3)&&!decide (bits .and .u8 (((n.bytes.getD ((n.bytes.length:Int)-1).toNat 0).toNat:Int) / 2 ^ ((n.bytes.getD 0 0).toNat:Int).toNat) 1=0)&&!(decide ((n.bytes.length:Int)=3)&&decide (((n.bytes.getD 0 0).toNat:Int)<7))
def H9 (n:Nd):Bool:=xR n 1 32&&n.kids.all λk=>(zG k).2
def LL (n:Nd):Bool:=Dq n 4&&decide (1<=(n.bytes.length:Int))&&decide ((n.bytes.length:Int)<=64)
def Dy (x:Xt):Bool:=if x.zJ=Cj then decide ((xN x.val).2.2=0)&&Hz (xN x.val).1 else if x.zJ=DA then decide ((xN x.val).2.2=0)&&Dd (xN x.val).1 else if x.zJ=Ha then decide ((xN x.val).2.2=0)&&H9 (xN x.val).1 else if x.zJ=M3 then decide ((xN x.val).2.2=0)&&LL (xN x.val).1 else true
theorem a4H (x:Xt) (c0 c1 c2 c3 c4 c5 c6:D) (hz:(xN x.val).1.sz<=1000000) (hn:¬ x.zJ=DA):Jx prog 321 339 [.st (Xt.enc x)] (.st [c0,c1,c2,c3,c4,c5,c6]) [] (λd _=>d=.b (Dy x)):=by
 have ht:=sk (xN x.val).1 c0 c1 c2 c3 c4 c5 c6 hz;refine Jx.intro func321 U ntmps321 U (λe b=>?_);refine W ?_;refine Ci U (λg1=>?_) (λg1=>?_)
 ·have Ln:x.zJ=Cj:=g1;have e1:Dy x=(decide ((xN x.val).2.2=0)&&Hz (xN x.val).1):=by unfold Dy;rw [xD Ln]
  rw [e1];refine W ?_;refine Bg U U (λh1=>?_) (λh1=>?_)
  ·refine W ?_;refine Al.ug U ?_;refine Cp (os1:=[.tmp 29]) (os2:=[]) U U U U U U U ht U ?_;rintro d' d1 rfl;exact m25
  ·exact m25
 refine W ?_;refine Ci U (λg2=>?_) (λg2=>?_)
 ·exact absurd g2 hn
 refine W ?_;refine Ci U (λg3=>?_) (λg3=>?_)
 ·have e1:Dy x=(decide ((xN x.val).2.2=0)&&H9 (xN x.val).1):=by unfold Dy;rw [xC (show ¬ x.zJ=Cj from g1),xC (show ¬ x.zJ=DA from g2),xD (show x.zJ=Ha from g3)]
  rw [e1];refine W ?_;refine Bg U U (λh1=>?_) (λh1=>?_)
  ·exact m25
  refine W ?_;refine Ci U (λh2=>?_) (λh2=>?_)
  ·refine W ?_;exact Ev 1 U U U U U (by simp_all [yR,B5,H9])
  refine W ?_;refine Rn (kS 1 Fj) 9 9 U U ?_;refine Lp (γ:=Nat) (λg=>g<=(xN x.val).1.kids.length/\((xN x.val).1.kids.take g).all (λk=>(zG k).2)=true) (λg=>(xN x.val).1.kids.length+1-g)
   (λg=>[(1,.own 0 0),(9,.row 5),(130,.d (.AX (xN x.val).1.kids)),(131,.d (.i ((xN x.val).1.kids.length:Int))),(132,.d (.i (g:Int)))])
   (λg=>[(0,.B1 339 (.st [c0,c1,c2,c3,c4,c5,c6])),(1,.Fo 0 b),(5,.row 9 (.sl 1 Fj (((xN x.val).1.kids.take g).map λk=>(zG k).1)))]) 0 ⟨by omega,U⟩ y9 y9 ?_
  rintro g ⟨hg,zX⟩;have k0:=b_ (xN x.val).1 g;refine W ?_;refine Ci U (λh3=>?_) (λh3=>?_)
  ·have hl:g<(xN x.val).1.kids.length:=by omega
   have ek:kd (xN x.val).1 g=(xN x.val).1.kids[g]:=by simp [kd,List.getD,hl]
   refine W ?_;refine Ci U (λh4=>?_) (λh4=>?_)
   ·have hb:H9 (xN x.val).1=false:=by
     unfold H9;have:((xN x.val).1.kids.all λk=>(zG k).2)=false:=by
      rw [yM];refine⟨_,ax hl,?_⟩;rw [<- ek];unfold kd;simp_all
     rw [this,yA]
    refine W ?_;exact Ev 1 U U U U U (by rw [hb,yA];rfl)
   have FH:(List.map (λk=>(zG k).1) (List.take g (xN x.val).1.kids)).length<=1000000:=by
    rw [aq];have h1:=dQ (xN x.val).1;have h2:(List.take g (xN x.val).1.kids).length<=(xN x.val).1.kids.length:=xY ..;omega
   refine W ?_;have hk:(zG (kd (xN x.val).1 g)).2=true:=by unfold kd;simp_all
   have e1:((xN x.val).1.kids.take (g+1)).map (λk=>(zG k).1)=((xN x.val).1.kids.take g).map (λk=>(zG k).1)++[(zG (kd (xN x.val).1 g)).1]:=by
    rw [ai hl,y8,ek];rfl
   have e2:((xN x.val).1.kids.take (g+1)).all (λk=>(zG k).2)=true:=by
    rw [ai hl,yr,zX,<- ek];simp [hk]
   exact m43
  ·have CK:g=(xN x.val).1.kids.length:=by omega
   subst CK;rw [xK] at zX;have hb:H9 (xN x.val).1=true:=by unfold H9;rw [h2.1,zX];rfl
   refine W ?_;exact Ev 1 U U U U U (by rw [hb,ae (show(xN x.val).2.2=0 from h1)];rfl)
 refine W ?_;refine Ci U (λg4=>?_) (λg4=>?_)
 ·have e1:Dy x=(decide ((xN x.val).2.2=0)&&LL (xN x.val).1):=by unfold Dy;rw [xC (show ¬ x.zJ=Cj from g1),xC (show ¬ x.zJ=DA from g2),xC (show ¬ x.zJ=Ha from g3),xD (show x.zJ=M3 from g4)]
  rw [e1];refine W ?_;refine Bg U U (λh1=>?_) (λh1=>?_)
  ·exact m25
  refine W ?_;refine Bg U U (λh2=>?_) (λh2=>?_)
  ·refine W ?_;exact Ev 1 U U U U U (by simp_all [yR,B5,LL])
  refine W ?_;refine Bg U U (λh3=>?_) (λh3=>?_)
  ·exact m101
  refine W ?_;refine Ci U (λh4=>?_) (λh4=>?_)
  ·exact m101
  exact m101
 have e1:Dy x=true:=by unfold Dy;rw [xC (show ¬ x.zJ=Cj from g1),xC (show ¬ x.zJ=DA from g2),xC (show ¬ x.zJ=Ha from g3),xC (show ¬ x.zJ=M3 from g4)]
 rw [e1];refine W ?_;exact Ev 1 U U U U U U
theorem a4G (x:Xt) (c0 c1 c2 c3 c4 c5 c6:D) (hz:(xN x.val).1.sz<=1000000) (hu:x.zJ=DA):Jx prog 321 339 [.st (Xt.enc x)] (.st [c0,c1,c2,c3,c4,c5,c6]) [] (λd _=>d=.b (Dy x)):=by
 refine Jx.intro func321 U ntmps321 U (λe b=>?_);refine W ?_;refine Ci U (λg1=>?_) (λg1=>?_)
 ·rw [hu] at g1;exact absurd g1 yD
 refine W ?_;refine Ci U (λg2=>?_) (λg2=>absurd hu g2);have e1:Dy x=(decide ((xN x.val).2.2=0)&&Dd (xN x.val).1):=by unfold Dy;rw [xC (show ¬ x.zJ=Cj from g1),xD (show x.zJ=DA from g2)]
 rw [e1];have kb:=bc (xN x.val).1;generalize (xN x.val).1=n at *;generalize (xN x.val).2.2=cd at *
 repeat (refine JD.seq ?_)
 refine Jm (γ:=Bool) (λg=>[(1,.own 0 0),(5,.own 3 0),(83,.d (.bq g))]) (λ_=>[(0,.B1 339 (.st [c0,c1,c2,c3,c4,c5,c6])),(1,.Fo 0 b),(3,.B1 33 (.nd n))]) (λg=>(decide (cd=0)&&Dd n)=!g) ?_ ?_
 ·refine W ?_;refine EK 37 U (λhc h1=>?_) (λhc h1=>?_)
  ·rw [hc];refine W ?_;exact⟨true,by simp_all,⟨⟨_,U,az⟩,⟨_,U,az⟩,⟨_,U,dL⟩,trivial⟩,y9⟩
  rw [hc];refine W ?_;refine EK 42 U (λhd h2=>?_) (λhd h2=>?_)
  ·rw [hd];refine W ?_;exact⟨true,by simp_all [Dd],⟨⟨_,U,az⟩,⟨_,U,az⟩,⟨_,U,dL⟩,trivial⟩,y9⟩
  rw [hd];refine W ?_;refine EK 48 U (λhe h3=>?_) (λhe h3=>?_)
  ·rw [he];exact m66
  rw [he];refine W ?_;refine EK 54 U (λhf h4=>?_) (λhf h4=>?_)
  ·rw [hf];exact m66
  rw [hf];refine W ?_;have hb7:=UF h2.1;refine bm U (yi.a4S U U ⟨Hm _,show _<=(8:Int) by omega⟩ U U) ?_;refine W ?_;refine bm U (yi.a9z U U U U) ?_;refine W ?_;refine EK 71 U (λhg h5=>?_) (λhg h5=>?_)
  ·rw [hg];exact m66
  rw [hg];have hu4:Dq n 3=true:=h2.1;have q0:(decide (cd=0)&&Dd n)=!(decide ((n.bytes.length:Int)=3)&&decide (((n.bytes.getD 0 0).toNat:Int)<7)):=by
   unfold Dd;rw [hu4,ae (show cd=0 by simpa using h1),ae (show 2<=(n.bytes.length:Int) by omega),ae (show(n.bytes.length:Int)<=3 by omega),ah h5];rfl
  rw [q0];refine W ?_;refine EK 76 U (λhi h6=>?_) (λhi h6=>?_)
  ·rw [hi];refine W ?_;exact⟨decide (((n.bytes.getD 0 0).toNat:Int)<7),by rw [xQ],⟨⟨_,U,az⟩,⟨_,U,az⟩,⟨_,U,az⟩,trivial⟩,y9⟩
  ·rw [hi];refine W ?_;exact⟨false,U,⟨⟨_,U,az⟩,⟨_,U,az⟩,⟨_,U,dL⟩,trivial⟩,y9⟩
 rintro g hg;rw [hg];refine Ci U (λh7=>?_) (λh7=>?_)
 ·rw [h7];refine W ?_;exact Ev 1 U U U U U U
 subst h7;have hU:Dd n=true:=by cases hh:Dd n<;>simp_all
 have hl:2<=(n.bytes.length:Int)/\(n.bytes.length:Int)<=3:=by
  unfold Dd at hU;simp only [xB,a_] at hU;exact⟨hU.1.1.1.2,hU.1.1.2⟩
 clear hg;refine W ?_;refine aI (yi.mul U U xE U U) ?_;refine W ?_;refine Lp (γ:=Nat×Int) (λg=>True) (λg=>100-g.1) (λg=>[(1,.own 0 0),(5,.own 3 0),(94,.d (.i (8*((n.bytes.length:Int)-1)))),(95,.d (.i (g.1:Int)))])
  (λg=>[(0,.var 339 [.d c0,.d c1,.d c2,.d (.v (.bool true)),.d (.i g.2),.d c5,.d c6]),(1,.Fo 0 b),(3,.B1 33 (.nd n))]) (0,0) trivial y9 y9 ?_
 rintro⟨g,u⟩ _;show JD _ _ _ _ _ [(1,.own 0 0),(5,.own 3 0),(94,.d (.i (8*((n.bytes.length:Int)-1)))),(95,.d (.i (g:Int)))] [(0,.var 339 [.d c0,.d c1,.d c2,.d (.v (.bool true)),.d (.i u),.d c5,.d c6]),(1,.Fo 0 b),(3,.B1 33 (.nd n))];refine W ?_;refine Ci U (λh8=>?_) (λh8=>?_)
 ·refine W ?_;refine bm U (yi.quo U U xE U U) ?_;refine W ?_;refine bm U (yi.rem U U xE U U) ?_;refine bm U (yi.a4S U U ⟨by omega,show _<=(8:Int) by omega⟩ U U) ?_;refine bm U (yi.a9z U U U U) ?_;refine W ?_;refine Ci U (λh9=>?_) (λh9=>?_)
  ·refine W ?_;refine bm U (yi.b01 U U ⟨by omega,show _<=(64:Int) by omega⟩ U U) ?_;refine bm U (yi.bor U U U U) ?_;refine W ?_;exact⟨(g+1,_),by simp only;omega,trivial,y9,y9⟩
  ·refine W ?_;exact⟨(g+1,u),by simp only;omega,trivial,y9,y9⟩
 ·refine W ?_;exact Ev 1 U U U U U U
theorem a4I (x:Xt) (c0 c1 c2 c3 c4 c5 c6:D) (hz:(xN x.val).1.sz<=1000000):Jx prog 321 339 [.st (Xt.enc x)] (.st [c0,c1,c2,c3,c4,c5,c6]) [] (λd _=>d=.b (Dy x)):=by
 by_cases h:x.zJ=DA
 ·exact a4G x c0 c1 c2 c3 c4 c5 c6 hz h
 ·exact a4H x c0 c1 c2 c3 c4 c5 c6 hz h
theorem tP (x:Xt) (hz:(xN x.val).1.sz<=1000000):yq prog 266 [.st (Xt.enc x)] (.b (Dy x)):=by
 refine an func266 U ntmps266 U (λe=>?_);refine W ?_;refine Cp (os1:=[.tmp 3]) (os2:=[]) U U U U U U U (a4I x _ _ _ _ _ _ _ hz) U ?_;rintro d' d1 rfl;exact m10
instance:Cn prog 266 (type_of% @tP):=⟨@tP⟩
theorem Tv {ks:LN}{a:OA}{c:Nat}{h:Part}(hT:D_ h) (hk:A3 B9 5 h a c ks) (hz:Nd.yP ks<=1099511627776) :
 Fn prog 222 [.slice a ks.length c] h [] (Cb λv h' Lo=>∃ a' c' xs,v=.agg #[.int .i64 0,.int .i64 16,.bool true,.slice none 0 0,.slice a' ks.length c']/\Lo=[.row a' c' 33 5 ks.length xs]/\yl B9 5 h' xs ks):=by
 refine aQ func222 U ntmps222 U (λe he=>?_);exact m20
section
variable {P:Program} [Tb P] {F:Fd}{n:y_}{x:Nat->y_}{a b Au:LO}{o ob o':LQ}{ops:Array Oper}{rest:LR}{base:Nat}{es r:List Ef}{c:Code}
variable {d k v e bytes Fi:Nat}{ty T:TypeId}{pos:String}{af:Array Edge}{xo yo:Operand}{us:List Nat}{d2:D}
theorem G6.b1v {α:Type}(K:Kd α) {l1 l2:List α}(HX:Aa us (aR CT b r)=some Au) (hx:z' Au xo=some (.row k)) (hk:BH (oS ob r) k=some (.row e (K.f l1))) (hy:z' Au yo=some (.d d2)) (Lh:B5 P T d2=K.f l2) (hT:Cy (Tb.ap P) T=some (e,K.sz,bytes))
 (hb:(l1.length+l2.length)*bytes<=140737488355328) (GF:Nat.blt 0 bytes=true) (hd:Nat.blt d F.m=true) :
 G6 P F ops x b ob r ⟨us,[],some (d,.d (K.f (l1++l2))),some (k,.F3 v e (K.f [])),false,some v⟩ ⟨some d,.call { callee:=.builtin .append,args:=#[xo,yo],argTypes:=#[T,T] },ty,pos,af,none⟩:=⟨Au,HX,_,hk,λn A' O' hA hO hfr hn=>.mk λρ h S L cz=>by
 obtain⟨fA,fO⟩:=hfr v U;have cu:=cz.wk hA;obtain⟨w1,h1,h2⟩:=bv cu hx;cases h2;obtain⟨w,h3,h4⟩:=bv cu hy;have h5:=gz (P:=P) (T:=T) h w h4;rw [Lh] at h5;obtain⟨a2,c2,rfl,hR⟩:=K.den.1 h5;obtain⟨y,L',hD,⟨xs,sz,rfl,Mk,NA⟩,hr⟩:=cz.o.get hO;obtain⟨rfl,hn',hc⟩:=K.row.1 Mk;have:=K.mono;refine JL.append (Tb.UM hT) h1 h3 hc hn' hR U hD hb hd GF (λaN cN xsN YJ YL=>?_);refine JL.LZ .here YJ U YL (λh' hle hS=>?_);refine JL.own (L':=.row none 0 e K.sz 0 []::L') (λ_ hw=>hw.CQ e K.sz) ?_;have w:=ρ.GB v none 0 0;have cf:=(cz.mono hle).fresh w fA fO;have CL:Bi (ρ.yI v none 0 0) h' ((k,.F3 v e (K.f []))::D9 O' k) (.row none 0 e K.sz 0 []::L') :=
  ⟨_,L',U,⟨[],K.sz,by simp [Ac.yI],K.row.2 ⟨U,by simp [Ac.yI],bQ⟩,by simp [Ac.yI]⟩,(hr.mono hle).fresh w fO.del⟩
 exact aj ⟨_,_,_,cF (u:=.d (K.f (l1++l2))) ⟨cf.t,cf.s,CL⟩ (K.den.2 ⟨_,_,U,hS⟩) d,hn⟩⟩
theorem Xad {α:Type}(K:Kd α) {l1 l2:List α}(HX:Aa (IF [xo,yo]) a=some Au) (hx:z' Au xo=some (.row k)) (hk:BH o k=some (.row e (K.f l1))) (hy:z' Au yo=some (.d d2)) (Lh:B5 P T d2=K.f l2) (hT:Cy (Tb.ap P) T=some (e,K.sz,bytes)) (hv:Cr a o=some v)
 (hb:(l1.length+l2.length)*bytes<=140737488355328) (GF:Nat.blt 0 bytes=true) (hd:Nat.blt d F.m=true) (Ip:H7 o k=some o')
 (kk:JX P F ops n x b ob base (⟨IF [xo,yo],[],some (d,.d (K.f (l1++l2))),some (k,.F3 v e (K.f [])),false,some v⟩::es) rest ((d,.d (K.f (l1++l2)))::a) ((k,.F3 v e (K.f []))::o')) :
 JX P F ops n x b ob base es (⟨some d,.call { callee:=.builtin .append,args:=#[xo,yo],argTypes:=#[T,T] },ty,pos,af,none⟩::rest) a o:=by
 obtain rfl:=eZ Ip;exact JX.put (λha ho=>⟨G6.b1v K (by rw [<- ha];exact HX) hx (by rw [<- ho];exact hk) hy Lh hT hb GF hd,by subst ha;rfl,by subst ho;rfl⟩) kk
end
theorem nF {α:Type} [DecidableEq α] {u:TypeDesc}{mk:α->Value}(hk:Hk u mk) {s:α}:∀ {arr:List MapEntry}{es:List α}{i j:Nat}{v:Value},arr.map (λe=>(e.key,e.val))=(es.map mk).map (λv=>(v,Value.bool true))->Instr.findNow u (mk s) arr i=some (some (j,v))->i<=j/\∃ e,arr[j-i]?=some e/\e.key=mk s/\e.val=.bool true
 |[],es,i,j,v,he,hf=>by cases hf
 |e::r,[],i,j,v,he,hf=>by simp at he
 |e::r,t::es,i,j,v,he,hf=>by
  simp only [yy,List.cons.injEq,zu] at he;obtain⟨⟨h1,h2⟩,h3⟩:=he;unfold Instr.findNow at hf;rw [h1,h2,hk.same] at hf;by_cases Lc:t=s
  ·subst Lc;simp only [decide_true,au,zu] at hf;obtain⟨rfl,rfl⟩:=hf;exact⟨aB _,e,by simp,h1,h2⟩
  ·simp only [Lc,decide_false] at hf;obtain⟨g1,e',g2,g3,g4⟩:=nF hk h3 hf;refine⟨by omega,e',?_,g3,g4⟩;rw [show j-i=(j-(i+1))+1 by omega];simpa using g2
section
variable {f:Fr}{n:yF}{x:Nat->yF}{S:AH}{h:Part}{L L':LE}{ops:Array Oper}{rest:LR}{d b cl T:Nat}{ty:TypeId}{pos:String}{af:Array Edge}{arr:Array MapEntry}{α:Type} [DecidableEq α] {u:TypeDesc}{mk:α->Value}{es:List α}{s:α}{xo yo vo:Operand}
theorem JL.a1x (hk:Hk u mk) (hsb:Instr.sameBits 10000 (mk s) (mk s)=true) (hT:KN f.P T u=true) (hx:ev S xo=some (.map (some b))) (hy:ev S yo=some (mk s)) (hv:ev S vo=some (.bool true)) (u1:Dt (.obj b (.map arr cl)) L L') (he:arr.toList.map (λe=>(e.key,e.val))=(es.map mk).map (λv=>(v,Value.bool true))) (hn:(es.any λt=>decide (t=s))=true)
 (k:∀ a7q:Array MapEntry,a7q.toList.map (λe=>(e.key,e.val))=(es.map mk).map (λv=>(v,Value.bool true))->JL f ops n x rest S h (.obj b (.map a7q cl)::L')):JL f ops n x (⟨none,.mapUpdate T xo yo vo,ty,pos,af,none⟩::rest) S h L:=λa w st=>by
 obtain⟨K,E,i,h1,h2,h3,h4⟩:=tf hT;have hw:w.heap[b]?=some (.map arr cl):=st.ok.own _ u1.mem;obtain⟨r,hr,hc⟩:=gC hk (s:=s) 0 he;have hck:=hk.GJ f.P K w false s h2;have hfk:=iU (P:=f.P) (w:=w) h2 hr;rcases hc with ⟨rfl,hc⟩|⟨j,rfl,hc⟩
 ·rw [hn] at hc;cases hc
 ·obtain⟨-,e,g1,g2,g3⟩:=nF hk he hr;simp only [Db] at g1;have Ln:arr[j]?=some e:=by rw [<- yX];exact g1
  refine ef (w':=w.putObj b (.map (arr.modify j λe=>{ e with key:=mk s,val:=.bool true }) cl)) U ?_ (k _ ?_ _ _ (st.with ((st.ok.perm u1.perm).putObj _)))
  ·simp [execOp,st.eval hx,st.eval hy,st.eval hv,Instr.mapUpdate,run_underlying h1,getObj,setObj,Sem.run,hw,hck,hfk,Result.andThen,World.putObj,Ln,g2,Instr.keyThatStays,hsb]
  ·rw [<- he];refine DG λm=>?_;rw [Array.toList_modify,DF,DF,List.getElem?_modify];by_cases hm:j=m
   ·subst hm;rw [g1];simp [g2,g3]
   ·simp [hm]
end
section
variable {P:Program} [Tb P] {F:Fd}{n:y_}{x:Nat->y_}{a:LO}{o o1:LQ}{ops:Array Oper}{rest:LR}
variable {k T:Nat}{ty:TypeId}{pos:String}{af:Array Edge}{xo yo vo:Operand}{α:Type} [DecidableEq α] {u:TypeDesc}{mk:α->Value}{es:List α}{s:α}
theorem MuP (hK:Hk u mk) (hsb:Instr.sameBits 10000 (mk s) (mk s)=true) (hx:z' a xo=some (.mp k)) (hy:z' a yo=some (.d (.v (mk s)))) (hv:z' a vo=some (.d (.v (.bool true)))) (hk:BH o k=some (.set (es.map mk))) (hn:(es.any λt=>decide (t=s))=true) (hT:KN P T u=true) (Ip:H7 o k=some o1)
 (kk:Al P F ops n x rest a ((k,.set (es.map mk))::o1)):Al P F ops n x (⟨none,.mapUpdate T xo yo vo,ty,pos,af,none⟩::rest) a o:=.mk λρ h S L cz=>by
 obtain rfl:=eZ Ip;obtain⟨v,h1,h2⟩:=bv cz hx;cases h2;obtain⟨y,L',hD,⟨arr,cl,rfl,he⟩,hr⟩:=cz.o.get hk;refine JL.a1x hK hsb hT h1 (bR cz hy) (bR cz hv) hD he hn (λa7q he'=>?_);exact kk.k ρ h S _ ⟨cz.t,cz.s,_,L',U,⟨_,_,U,he'⟩,hr⟩
end
theorem a55 (i:Int):Instr.sameBits 10000 (a2u i) (a2u i)=true:=by simp [Instr.sameBits]
theorem Y3 (y:Int):∀ (k:Nat) (d:Int) (m:Nat),0<=d->1<=m->m<=12->13<=k+m->d+zM y (m-1)<zM y 12->∃ n:Nat,(GD y k d m).2=n/\1<=n/\n<=12/\0<=(GD y k d m).1/\(GD y k d m).1<zR y n
 |0,d,m,h0,h1,h2,h3,h4=>by omega
 |k+1,d,m,h0,h1,h2,h3,h4=>by
  have e:zM y m=zM y (m-1)+zR y m:=by
   obtain⟨m',rfl⟩:∃ m',m=m'+1:=⟨m-1,by omega⟩;simp [zM]
  unfold GD;by_cases h:zR y m<=d
  ·rw [xD h];have hm:m≠12:=by rintro rfl;omega
   have:=Y3 y k (d-zR y m) (m+1) xE xE xE xE (by rw [Af];omega);exact this
  ·rw [xC h];exact⟨m,U,h1,h2,h0,by omega⟩
theorem tY (y:Int) (h0:0<=y):xT (y+1)=xT y+zM y 12:=by
 have hm:zM y 12=337+zR y 2:=by
  simp [zM,zR];omega
 rw [hm];unfold xT zR IJ;rw [xC xE,xD rfl];by_cases h:y=0
 ·subst h;rfl
 ·rw [xC h];split<;>rename_i hl<;>simp only [xB,yu,a_,yN,xL] at hl<;>omega
theorem S6 (t:Int) (h0:-62167219200<=t/\t<=253402300799):1<=(yV t).2.1/\(yV t).2.1<=12/\1<=(yV t).2.2/\(yV t).2.2<=zR (yV t).1 (yV t).2.1:=by
 obtain⟨h1,h2,h3⟩:=gi t h0;have h4:=tY (yn t) h1;obtain⟨n,e1,e2,e3,e4,e5⟩:=Y3 (yn t) 400 (A4 t-xT (yn t)) 1 xE xE xE xE (by rw [show zM (yn t) (1-1)=0 from rfl];omega);unfold yV;simp only;have e6:((1:Nat):Int)=1:=rfl;rw [e6] at e1 e4 e5;rw [e1];omega
section
variable {P:Program} [Tb P] {F:Fd}{a:LO}{o:LQ}{ops:Array Oper}{d:Nat}{ty T yt:TypeId}{pos:String}{af:Array Edge}{g:Option (Nat×Bool)}{xo yo:Operand}{p q:Int}{k:IntKind}
theorem yi.a8_ (hx:z' a xo=some (.d (.v (.int .u64 p)))) (hy:z' a yo=some (.d (.v (.int .u64 q)))) (h0:0<=p/\p<=18446744073709551615/\0<q) (hg:Cc ops a g=some true) (hd:Nat.blt d F.m=true) :
 yi P F ops a o ⟨some d,.binOp .quo T xo yo yt,ty,pos,af,g⟩ d (.d (.v (.int .u64 (p / q)))):=.bin hx hy (λ_ _ _ h1 h2=>xG.ET h1 h2 h0.1 h0.2.1 h0.2.2) hg hd
theorem yi.a86 (hx:z' a xo=some (.d (.v (.int .u64 p)))) (hy:z' a yo=some (.d (.v (.int .u64 q)))) (h0:0<=p/\0<q) (hg:Cc ops a g=some true) (hd:Nat.blt d F.m=true) :
 yi P F ops a o ⟨some d,.binOp .rem T xo yo yt,ty,pos,af,g⟩ d (.d (.v (.int .u64 (p % q)))):=.bin hx hy (λ_ _ _ h1 h2=>xG.HO h1 h2 h0.1 h0.2) hg hd
end
theorem Qw (y m:Int) (h0:0<=y):yq prog 350 [.i y,.i m] (.i (Ea y m)):=ip y m h0
instance:Cn prog 350 (type_of% @Qw):=⟨@Qw⟩
theorem qF (n q:Int) (h0:0<=n) (h1:n<=18446744073709551615) (h2:0<=q) (h3:q<=20):yq prog 190 [.v (.int .u64 n),.i q] (.s (CS n.toNat q.toNat)):=by
 have c:=oA n.toNat q.toNat xE xE;rwa [zk h0,zk h2] at c
instance:Cn prog 190 (type_of% @qF):=⟨@qF⟩
abbrev inT (t:Int):Prop:=-62167219200<=t/\t<=253402300799
theorem sE (t:Int) (h0:inT t):yq prog 326 [.i t] (.zZ [.i (yV t).1,.i (yV t).2.1,.i (yV t).2.2,.i 0]):=by
 have hD0:0<=A4 t:=by unfold A4;omega
 have hD1:A4 t<=3652424:=by unfold A4;omega
 refine an func326 U ntmps326 U (λe=>?_);refine W ?_;refine Bg U U (λ_=>?_) (λ_=>?_)
 ·exfalso;omega
 refine W ?_;refine Ci U (λ_=>?_) (λ_=>?_)
 ·exfalso;omega
 refine W ?_;refine Lp (γ:=Int×Int) (λg=>0<=g.1/\0<=g.2/\xT g.2+g.1=A4 t) (λg=>g.1.toNat) (λg=>[(6,.d (.i g.1)),(7,.d (.i g.2))]) (λ_=>[]) (A4 t,0)
  ⟨hD0,by simp only;omega,by simp [xT]⟩ y9 trivial ?_
 rintro⟨d,y⟩ ⟨i0,i1,i2⟩;dsimp only at i0 i1 i2;show JD _ _ _ _ _ [(6,.d (.i d)),(7,.d (.i y))] [];have lo:=eC y i1;refine W ?_;refine Ci U (λhc=>?_) (λhc=>?_)
 ·have:=SC y i1;refine W ?_;exact⟨(d-146097,y+400),by simp only;omega,⟨by simp only;omega,by simp only;omega,by simp only;omega⟩,y9,trivial⟩
 refine W ?_;refine Lp (γ:=Int×Int) (λg=>0<=g.1/\0<=g.2/\xT g.2+g.1=A4 t) (λg=>g.1.toNat) (λg=>[(6,.d (.i g.1)),(7,.d (.i g.2))]) (λ_=>[]) (d,y)
  ⟨i0,i1,i2⟩ y9 trivial ?_
 clear i0 i1 i2 lo hc;rintro⟨d,y⟩ ⟨i0,i1,i2⟩;dsimp only at i0 i1 i2;show JD _ _ _ _ _ [(6,.d (.i d)),(7,.d (.i y))] [];have lo:=eC y i1;have nx:=a08 y i1;have db:=vO y 0;refine W ?_;refine Ci U (λhc=>?_) (λhc=>?_)
 ·refine W ?_;exact⟨(d-Ea y 0,y+1),by simp only;omega,⟨by simp only;omega,by simp only;omega,by simp only;omega⟩,y9,trivial⟩
 have ey:yn t=y:=PO h0 i1 xE xE;have ed:d=A4 t-xT (yn t):=by rw [ey];omega
 have hb:A4 t-xT (yn t)<=366:=by rw [<- ed];omega
 subst ed;rw [<- ey];clear ey hc nx lo i2;refine W ?_;refine Lp (γ:=Nat×Int×Int) (λg=>0<=g.2.1/\1<=g.2.2/\28*(g.2.2-1)+g.2.1<=366/\GD (yn t) g.1 g.2.1 g.2.2=GD (yn t) 400 (A4 t-xT (yn t)) 1/\g.2.1<(g.1:Int)) (λg=>g.1)
  (λg=>[(6,.d (.i g.2.1)),(7,.d (.i (yn t))),(8,.d (.i g.2.2))]) (λ_=>[]) (400,A4 t-xT (yn t),1)
  ⟨by simp only;omega,by simp only;omega,by simp only;omega,U,by simp only;omega⟩ ?_ trivial ?_
 ·exact y9
 rintro⟨k,d,m⟩ ⟨j0,j1,j2,j3,j4⟩;dsimp only at j0 j1 j2 j3 j4;show JD _ _ _ _ _ [(6,.d (.i d)),(7,.d (.i (yn t))),(8,.d (.i m))] [];obtain⟨k,rfl⟩:∃ k',k=k'+1:=⟨k-1,by omega⟩;have yb:=(gi t h0).1;have mb:=cO (yn t) m;have em:Ea (yn t) m=zR (yn t) m:=by unfold Ea;rw [xC xE]
 rw [GD] at j3;refine W ?_;rw [em];refine Ci U (λBO=>?_) (λBO=>?_)
 ·rw [xD BO] at j3;refine W ?_;exact⟨(k,d-Ea (yn t) m,m+1),by simp only;omega,⟨by simp only;omega,by simp only;omega,by simp only;omega,by simp only;rw [em];exact j3,by simp only;omega⟩,y9,trivial⟩
 exact m183
theorem qH (t:Int) (h0:¬ inT t):yq prog 326 [.i t] (.zZ [.i 0,.i 0,.i 0,.i 21]):=by
 refine an func326 U ntmps326 U (λe=>?_);refine W ?_;refine Bg U U (λ_=>?_) (λ_=>?_)
 ·exact m10
 refine W ?_;refine Ci U (λ_=>?_) (λ_=>?_)
 ·exact m10
 exfalso;omega
def HM (t:Int):Int:=(t - -62167219200) % 86400
def NM (t:Int):yG:=CS (yV t).2.1.toNat 2++CS (yV t).2.2.toNat 2++CS (HM t / 3600).toNat 2++CS (HM t / 60 % 60).toNat 2++CS (HM t % 60).toNat 2
theorem uL (t:Int) (h0:inT t):yq prog 327 [.i t] (.s (NM t)):=by
 have c1:=sE t h0;have bd:=kM t h0;have d1:=cG (yV t).2.1.toNat (Int.toNat 2);have d2:=cG (yV t).2.2.toNat (Int.toNat 2);have d3:=cG (HM t / 3600).toNat (Int.toNat 2);have d4:=cG (HM t / 60 % 60).toNat (Int.toNat 2);have d5:=cG (HM t % 60).toNat (Int.toNat 2);have hs:0<=HM t/\HM t<86400:=by unfold HM;omega
 unfold NM;refine an func327 U ntmps327 U (λe=>?_);refine W ?_;have e1:(t - -62167219200) % 86400=HM t:=rfl;rw [e1];refine aI (yi.a8_ U U xE U U) ?_;refine W ?_;refine aI (yi.a8_ U U xE U U) ?_;refine aI (yi.a86 U U xE U U) ?_;refine W ?_;refine aI (yi.a86 U U xE U U) ?_;refine W ?_;exact Rt U U U
theorem Sk (t:Int):(NM t).length<=100:=by
 have d1:=cG (yV t).2.1.toNat 2;have d2:=cG (yV t).2.2.toNat 2;have d3:=cG (HM t / 3600).toNat 2;have d4:=cG (HM t / 60 % 60).toNat 2;have d5:=cG (HM t % 60).toNat 2;unfold NM;simp only [aF];omega
theorem SI (t y:Int) (w:Nat):EO t y w 5=CS y.toNat w++NM t:=by
 simp only [EO,NM,AT,HM,xW]
theorem uu (t:Int):yq prog 274 [.i t] (.zZ [.s ((A_ t).getD []),.i (if(A_ t).isSome then 0 else 21)]):=by
 by_cases h0:inT t
 ·have c1:=sE t h0;have c2:=uL t h0;have bd:=kM t h0;have cl:=Sk t;have dl:=cG ((yV t).1 % 100).toNat (Int.toNat 2);have ys:=na h0;have ye:yn t=(yV t).1:=rfl;rw [ye] at ys;refine an func274 U ntmps274 U (λe=>?_);refine W ?_;refine Bg U U (λ_=>?_) (λ_=>?_)
  ·have e1:A_ t=none:=by unfold A_;rw [xD xE]
   exact m206
  refine W ?_;refine Ci U (λ_=>?_) (λ_=>?_)
  ·have e1:A_ t=none:=by unfold A_;rw [xD xE]
   exact m206
  have e1:A_ t=some (CS ((yV t).1 % 100).toNat 2++NM t++[90]):=by
   unfold A_ KB;rw [xC xE,xD U,<- SI];rfl
  exact m206
 ·have c1:=qH t h0;have e1:A_ t=none:=by unfold A_;rw [xD xE]
  rw [e1];refine an func274 U ntmps274 U (λe=>?_);exact m10
instance:Cn prog 274 (type_of% @uu):=⟨@uu⟩
theorem Qn (t:Int):yq prog 275 [.i t,.i 0] (.zZ [.s ((AP t).getD []),.i (if(AP t).isSome then 0 else 21)]):=by
 by_cases h0:inT t
 ·have c1:=sE t h0;have c2:=uL t h0;have bd:=kM t h0;have cl:=Sk t;have dl:=cG (yV t).1.toNat (Int.toNat 4);have e1:AP t=some (CS (yV t).1.toNat 4++NM t++[90]):=by
   unfold AP KB;rw [xC xE,xC yD,<- SI];rfl
  rw [e1];refine an func275 U ntmps275 U (λe=>?_);exact m10
 ·have c1:=qH t h0;have e1:AP t=none:=by unfold AP;rw [xD xE]
  rw [e1];refine an func275 U ntmps275 U (λe=>?_);exact m10
instance:Cn prog 275 (type_of% @Qn):=⟨@Qn⟩
theorem Qh (t:Int):yq prog 197 [.i t] (.zZ [.nd (AM t),.i (Bj t)]):=by
 have h1:=jU t;have h2:=mH t;unfold AM Bj;refine an func197 U ntmps197 U (λe=>?_);exact m30
instance:Cn prog 197 (type_of% @Qh):=⟨@Qh⟩
def MW (x:Nd):Nd:=if x.put.isSome then .mk 0 17 true [] [x] else DU
def Wm (x:Nd):Int:=if x.put.isSome then 0 else 34
theorem Qc (x:Nd):(Dp [x]).1=MW x/\(Dp [x]).2=Wm x:=by
 unfold MW Wm;rcases qn [x] with ⟨⟨y,hy,hb⟩,h2,h3⟩|⟨l0,L,h1,h2,h3,h4,h5⟩
 ·rw [zS] at hy;subst hy;rw [hb];exact⟨h2,h3⟩
 ·have e:=h1.eq;have hp:x.put=some (x.put.getD []):=h1.2 (x.put.getD [],x) (by rw [e];exact zS.2 U);rw [e] at h2;rw [List.perm_singleton.1 h2] at h4;rw [h4,h5,hp];exact⟨U,U⟩
theorem Ot (x:Nd) (hz:x.sz<=19000000):yq prog 86 [.AX [x]] (.zZ [.nd (MW x),.i (Wm x)]):=by
 have:=Xa [x] (by simp) (by simp only [Nd.yP];omega);rwa [(Qc x).1,(Qc x).2] at this
instance:Cn prog 86 (type_of% @Ot):=⟨@Ot⟩
def UK (a:At):Nd:=.mk 0 16 true [] [Ay a.zJ,.mk 0 a.kind false a.text []]
def atN (a:At):Nd:=MW (UK a)
def C9 (l:List At):Bool:=decide ((l.length:Int)<=16)&&l.all Ax
def AO (l:List At):Nd:=if C9 l then .mk 0 16 true [] (l.map atN) else DU
def CW (l:List At):Int:=if C9 l then 0 else 61
theorem PI (a:At):(UK a).sz<=11*a.zJ.length+a.text.length+30:=by
 have:=dD a.zJ;simp only [UK,Nd.sz,Nd.yP,ay];omega
theorem Rt0  [Tb P] {e:Env}{m:Nat}{fn:Func}{R:D->Prop}{n:y_}{x:Nat->y_}{a a1:LO}{o o1:LQ}{d:D}(hp:E4 (Ye o) a o=some (a1,o1)) (hr:KI P a1 o1 fn.results.toList []=some [d]) (hR:R d):JD P (FE P e m fn R) .ret n x a o:=.mk λρ h S L cz ac w s=>by
 obtain⟨h',L',hle,zt,BG⟩:=dp hp cz s.ok;obtain⟨vs,h1,h2⟩:=ox (e:=e) (m:=m) BG hr;have Gc:∀ ac w,Sat e m S h' L' ac w->(fn.results.mapM (H_ ac.tmps)).run P w=.ok vs.toArray w:=λac w s=>by
  have:=h2 ac w s;rw [HF];simp [this]
 unfold yT at h1;obtain⟨v,t,rfl,h3,h4⟩:=h1;unfold yT at h4;subst h4;exact dm (f:=(FE P e m fn R).fr P) (n:=up P n) (x:=λi=>up P (x i)) ⟨v,[],L',λac w s=>by rw [dO];simp [Gc ac w s],.nil,v,U,U,_,hR,h3⟩ ac w (s.with zt)
abbrev F6:D:=.v (.slice none 0 0)
theorem a5z:yq prog 187 [.AX []] F6:=by
 refine an func187 U ntmps187 U (λe=>?_);refine W ?_;refine Lp (γ:=Unit) (λ_=>True) (λ_=>0) (λ_=>[(3,.d F6),(7,.d (.i 0)),(8,.d (.i 0))]) (λ_=>[]) () trivial y9 trivial ?_;rintro _ _;exact m194
theorem Si (c t:Int):yq prog 118 [.i c,.i t,.AX []] (.st [.i c,.i t,.v (.bool true),F6,F6]):=by
 have h0:=a5z;refine an func118 U ntmps118 U (λe=>?_);exact m194
theorem Wr:yq prog 218 [.AX []] (.st [.i 0,.i 16,.v (.bool true),F6,F6]):=by
 have h0:=Si 0 16;refine an func218 U ntmps218 U (λe=>?_);exact m194
theorem iM (l:List At) (hl:l.length<=1000000) (hB:∀ a∈l,a.zJ.length<=1000000/\a.text.length<=1000000):yq prog 155 [.sl 3 At.enc l] (.zZ [.nd (AO l),.i (CW l)]):=by
 have bad:C9 l=false->yR [.nd DU,.i 61]=.zZ [.nd (AO l),.i (CW l)]:=λhb=>by simp [yR,AO,CW,hb]
 have TW:=Wr;refine an func155 U ntmps155 U (λe=>?_);refine W ?_;refine Ci U (λh1=>?_) (λh1=>?_)
 ·refine W ?_;exact Rt U U (bad (by simp [C9,show ¬ (l.length:Int)<=16 by omega]))
 refine W ?_;refine Rv kN 1 4 33 U U U U U U ?_;refine Lp (γ:=Nat) (λg=>g<=l.length/\(l.take g).all Ax=true) (λg=>l.length+1-g)
  (λg=>[(2,.own 0 0),(4,.own 1 0),(16,.d (.sl 3 At.enc l)),(17,.d (.i (l.length:Int))),(18,.d (.i (g:Int)))])
  (λg=>[(1,.var 33 [.d (.i 0),.d (.i 16),.d (.v (.bool true)),.d F6,.row 2]),(2,.row 33 (.AX ((l.take g).map atN))),(0,.var 33 [.d (.i 0),.d (.i 0),.d (.b false),.d F6,.d F6])]) 0 ⟨by omega,U⟩ y9 y9 ?_
 rintro g ⟨hg,zX⟩;have FH:((l.take g).map atN).length<=1000000:=by rw [aq];have:=xY g l;omega
 refine W ?_;refine Ci U (λh=>?_) (λh=>?_)
 ·have yJ:g<l.length:=by omega
  have yL:l.getD g default=l[g]:=aU yJ;obtain⟨b1,b2⟩:=hB _ (ax yJ);rw [<- yL] at b1 b2;have o1:=dD (l.getD g default).zJ;have o2:=PI (l.getD g default);have c0:=mh (l.getD g default) xE;have c1:=wI [Ay (l.getD g default).zJ,.mk 0 (l.getD g default).kind false (l.getD g default).text []] (by simp only [Nd.yP,Nd.sz];omega);have c2:=Ot (UK (l.getD g default)) xE;have EW:(l.take (g+1)).map atN=(l.take g).map atN++[atN (l.getD g default)]:=by rw [ai yJ,y8,yL];rfl
  have hta:(l.take (g+1)).all Ax=Ax (l.getD g default):=by rw [ai yJ,yr,zX,yL];simp
  refine W ?_;refine Ci U (λh2=>?_) (λh2=>?_)
  ·exact m103
  refine W ?_;refine⟨g+1,by omega,⟨by omega,by rw [hta,h2]⟩,y9,?_⟩;rw [EW];exact y9
 ·have CK:g=l.length:=by omega
  subst CK;rw [xK] at zX;rw [xK];have hb:C9 l=true:=by simp [C9,zX];omega
  refine Pb 2 U ?_;refine W ?_;refine Rt U U ?_;simp only [yR,AO,CW,hb,if_true]
instance:Cn prog 155 (type_of% @iM):=⟨@iM⟩
theorem oj (t:Int) (b:yG) (hb:b.length<=10000000):yq prog 258 [.i t,.bs b] (.b (AJ t b)):=Ox t b xE
instance:Cn prog 258 (type_of% @oj):=⟨@oj⟩
theorem mf (s:yG) (hs:s.length<=1000000000):yq prog 276 [.s s] (.b (Ai s).isSome):=by
 exact an func276 U ntmps276 U (λe=>Z)
instance:Cn prog 276 (type_of% @mf):=⟨@mf⟩
def EB (a:At):Bool:=(Ai a.zJ).isSome&&!decide (200<(a.text.length:Int))&&(decide (a.kind=12)||decide (a.kind=19)||decide (a.kind=22))&&AJ a.kind a.text
theorem fG (a:At):EB a=Ax a:=by
 unfold EB Ax;have e:(!decide (200<(a.text.length:Int)))=decide (a.text.length<=200):=by
  rw [Kn];simp;omega
 rw [e];cases (Ai a.zJ).isSome<;>cases decide (a.text.length<=200)<;>simp;by_cases h1:a.kind=12
 ·simp [h1,sh rfl]
 by_cases h2:a.kind=19
 ·simp [h2,sf rfl]
 by_cases h3:a.kind=22
 ·simp [h3,se rfl]
 simp [h1,h2,h3]
theorem k7 (a:At) (h1:a.zJ.length<=1000000) (h2:a.text.length<=1000000):yq prog 271 [.st (At.enc a)] (.b (EB a)):=by
 have hv:=oj a.kind a.text xE;unfold EB;exact an func271 U ntmps271 U (λe=>Z)
instance:Cn prog 271 (type_of% @k7):=⟨@k7⟩
def Jc (a:At):Nd:=.mk 0 17 true [] [UK a]
def ED (l:List At):Nd:=if C9 l then .mk 0 16 true [] (l.map Jc) else DU
theorem fM (l:List At) (hl:l.length<=1000000) (hB:∀ a∈l,a.zJ.length<=1000000/\a.text.length<=1000000):yq prog 194 [.sl 3 At.enc l] (.zZ [.nd (ED l),.i (CW l)]):=by
 have bad:C9 l=false->yR [.nd DU,.i 61]=.zZ [.nd (ED l),.i (CW l)]:=λhb=>by simp [yR,ED,CW,hb]
 refine an func194 U ntmps194 U (λe=>?_);refine W ?_;refine Rn kN 4 33 U U ?_;refine Lp (γ:=Nat) (λg=>g<=l.length/\g<=16/\(l.take g).all Ax=true) (λg=>l.length+1-g)
  (λg=>[(0,.d (.sl 3 At.enc l)),(2,.own 0 0),(4,.row 1),(5,.d (.i (g:Int)))])
  (λg=>[(1,.row 33 (.AX ((l.take g).map Jc))),(0,.var 33 [.d (.i 0),.d (.i 0),.d (.b false),.d F6,.d F6])]) 0 ⟨by omega,by omega,U⟩ y9 y9 ?_
 rintro g ⟨hg,b2e,zX⟩;have FH:((l.take g).map Jc).length<=1000000:=by rw [aq];have:=xY g l;omega
 refine W ?_;refine Ci U (λh=>?_) (λh=>?_)
 ·have yJ:g<l.length:=by omega
  have yL:l.getD g default=l[g]:=aU yJ;obtain⟨b1,b2⟩:=hB _ (ax yJ);rw [<- yL] at b1 b2;have c0:=k7 (l.getD g default) b1 b2;rw [fG] at c0;have c1:=mc (s:=(l.getD g default).zJ) b1;have EW:(l.take (g+1)).map Jc=(l.take g).map Jc++[Jc (l.getD g default)]:=by rw [ai yJ,y8,yL];rfl
  have hta:(l.take (g+1)).all Ax=Ax (l.getD g default):=by rw [ai yJ,yr,zX,yL];simp
  refine W ?_;refine Bg U U (λh3=>?_) (λh3=>?_)
  ·refine W ?_;refine Rt U U (bad ?_);simp [C9,show ¬ (l.length:Int)<=16 by omega]
  refine W ?_;refine Ci U (λh2=>?_) (λh2=>?_)
  ·exact m103
  refine W ?_;refine Pl 3 U ?_;refine W ?_;refine⟨g+1,by omega,⟨by omega,by omega,by rw [hta,h2]⟩,y9,?_⟩;rw [EW];exact y9
 ·have CK:g=l.length:=by omega
  subst CK;rw [xK] at zX;rw [xK];have hb:C9 l=true:=by simp [C9,zX];omega
  have c2:=qv (l:=l.map Jc);refine Pb 1 U ?_;refine W ?_;refine Rt U U ?_;simp only [yR,ED,CW,hb,if_true]
instance:Cn prog 194 (type_of% @fM):=⟨@fM⟩
theorem QC {c t:Int}{b:yG}{ks:LN}(h:(Nd.mk c t k b ks).put.isSome=true):EU c t k b ks=true/\(Nd.B0 (decide (c=0)&&decide (t=17)) ks none b).isSome=true:=by
 simp only [Nd.put] at h;split at h
 ·exact⟨by assumption,by simpa using h⟩
 ·cases h
theorem dn {n:Nd}(h:n.put.isSome=true):(n.cons=true->n.bytes=[])/\(n.cons=false->n.kids=[]):=by
 obtain⟨c,t,k,b,ks⟩:=n;obtain⟨h1,_⟩:=QC h;unfold EU at h1;simp only [HS,HD,Fs];constructor
 ·rintro rfl;simp at h1;exact h1.2
 ·rintro rfl;simp at h1;exact h1.2.1
theorem bV {n:Nd}(h:n.put.isSome=true):∀ k∈n.kids,k.put.isSome=true:=by
 obtain⟨c,t,k,b,ks⟩:=n;obtain⟨_,h2⟩:=QC h;rw [ei,xB] at h2;exact xH.1 h2.1
theorem iq {b:yG}(hm:B6 0 t false=true) (hv:AJ t b=true):(Nd.mk 0 t false b []).put.isSome=true:=by
 have h3:EU 0 t false b []=true:=by simp [EU,hm,hv]
 simp only [Nd.put,h3,if_true,DE];rw [ei];simp [E5,IC]
theorem tL {ks:LN}(ht:0<=t/\t<=30):(Nd.mk 2 t true [] ks).put.isSome=ks.all (·.put.isSome):=by
 have h:EU 2 t true [] ks=true:=by simp [EU,B6,ht]
 rw [Nd.put,xD h,DE,show(decide ((2:Int)=0)&&decide (t=17))=false by simp,ei];simp
theorem Zz {b:yG}(ht:0<=t/\t<=30):(Nd.mk 2 t false b []).put.isSome=true:=by
 have h3:EU 2 t false b []=true:=by simp [EU,B6,ht]
 simp only [Nd.put,h3,if_true,DE];rw [ei];simp
theorem Ys:∀ (r:yG) (m:Int),zU (m*256 ^ r.length+(DN r:Int)) r.length=r
 |[],m=>rfl
 |x::t,m=>by
  have h1:(0:Int)<256 ^ t.length:=G' yD;have h2:(DN t:Int)<256 ^ t.length:=by exact_mod_cast iO t
  have e:m*256 ^ (x::t).length+(DN (x::t):Int)=(m*256+x.toNat)*256 ^ t.length+(DN t:Int):=by
   rw [fe,aw,F0,cP,bZ,Gr];show m*(256 ^ t.length*256)+((x.toNat:Int)*256 ^ t.length+_)=_;grind
  have hd:((m*256+x.toNat)*256 ^ t.length+(DN t:Int)) / 256 ^ t.length=m*256+x.toNat:=by
   rw [Int.add_comm,Int.add_mul_ediv_right _ _ xE,Int.ediv_eq_zero_of_lt xE h2,Int.zero_add]
  have hx:=zA x;rw [e,aw,zU,hd,Ys t (m*256+x.toNat)];congr 1;rw [show((m*256+(x.toNat:Int)) % 256).toNat=x.toNat by omega];exact Bn
theorem Qe (x:UInt8) (r:yG):sV (x::r)=s8 x.toNat*256 ^ r.length+(DN r:Int):=rfl
theorem ju {x:Nd}(h:x.AA=true) (ht:x.tag=2):x=.mk 0 2 false (B2 x.D7) []:=by
 obtain⟨c,t,k,bs,ks⟩:=x;rw [P2 h];rw [jv,xB,a_] at h;obtain⟨hw,h8⟩:=h;obtain⟨rfl,_,rfl,rfl,hl⟩:=fl.1 hw;simp only [FQ] at ht;subst ht;congr 1;cases bs with
 |nil=>simp [AY] at hl
 |cons x r =>
  have hx:=zA x;have hp:(0:Int)<256 ^ r.length:=G' yD;have hr:(DN r:Int)<256 ^ r.length:=by exact_mod_cast iO r
  have hs:-128<=s8 x.toNat/\s8 x.toNat<=127:=Wy _ hx;have hdv:sV (x::r) / 256 ^ r.length=s8 x.toNat:=by
   rw [Qe,Int.add_comm,Int.add_mul_ediv_right _ _ xE,Int.ediv_eq_zero_of_lt xE hr,Int.zero_add]
  have hib:zU (sV (x::r)) (r.length+1)=x::r:=by
   rw [zU,hdv,Qe,Ys];congr 1;rw [show(s8 x.toNat % 256).toNat=x.toNat by unfold s8;split<;>omega];exact Bn
  have a8P:DB (sV (x::r)) (r.length+1):=by
   unfold DB;rw [Af,hdv];omega
  simp only [aw] at h8;rw [pC _ r.length xE ?_ a8P,hib];cases r with
  |nil=>exact .inl U
  |cons y t =>
   right;have:=pt (sV (x::y::t)) t.length a8P;rw [show t.length+2=(y::t).length+1 from rfl,hib,hl] at this;simpa using this.symm
theorem i6 {x:Nd}(h:x.Cu=true) (ht:x.tag=2):Bt x.BE=x:=by
 obtain⟨c,t,k,bs,ks⟩:=x;have hl:(Nd.mk c t k bs ks).BE=CV (DN bs):=xD h;rw [hl];unfold Nd.Cu at h;rw [xB,a_] at h;obtain⟨hw,h0⟩:=h;simp only [HD] at h0;obtain⟨rfl,_,rfl,rfl,hb⟩:=fl.1 hw;simp only [FQ] at ht;subst ht;unfold Bt;rw [p9,cT,gL];have key:bl (DN bs) / 8+1=bs.length:=by
  match bs,h0,hb with
  |[],_,hb=>simp [AY] at hb
  |[x],h0,_ =>
   have e:DN [x]=x.toNat:=by simp [DN]
   have e0:xF [x] 0=x.toNat:=rfl;have:=n9 7 (DN [x]) xE;simp only [aw,ay];omega
  |x::y::t,h0,hb =>
   have e0:xF (x::y::t) 0=x.toNat:=rfl;have e1:xF (x::y::t) 1=y.toNat:=rfl;have hx:¬ (x.toNat=0/\y.toNat<128):=by
    unfold AY at hb;rw [xC (by simp),xC (by simp)] at hb;have:=xV hb;rw [e0,e1] at this;exact λhh=>this (.inl hh)
   have hy:=zA y;have ht:=iO t;have hyt:=iO (y::t);have hv:DN (x::y::t)=x.toNat*256 ^ (t.length+1)+DN (y::t):=fe x (y::t);have hv2:DN (y::t)=y.toNat*256 ^ t.length+DN t:=fe y t;simp only [aw] at hyt |-
   have p1:(256:Nat) ^ t.length=2 ^ (8*t.length):=by rw [CB]
   have p2:(256:Nat) ^ (t.length+1)=2 ^ (8*t.length+8):=by rw [show 8*t.length+8=8*(t.length+1) by omega,CB]
   have q1:(2:Nat) ^ (8*t.length+8)=2 ^ (8*t.length)*256:=DO ..;have q2:(2:Nat) ^ (8*t.length+15)=2 ^ (8*t.length)*32768:=DO ..;have q3:(2:Nat) ^ (8*t.length+7)=2 ^ (8*t.length)*128:=DO ..;rw [p1] at hv2 ht;rw [p2] at hv hyt;rw [e0] at h0;have up:bl (DN (x::y::t))<=8*t.length+15:=by
    refine n9 _ _ ?_;rw [hv,q2];rw [q1] at hyt |-
    have:x.toNat*(2 ^ (8*t.length)*256)<=127*(2 ^ (8*t.length)*256):=aT _ xE;omega
   have lo:8*t.length+8<=bl (DN (x::y::t)):=by
    refine a4e _ (8*t.length+7) ?_;rw [hv,q3];by_cases hx0:x.toNat=0
    ·have:128*2 ^ (8*t.length)<=y.toNat*2 ^ (8*t.length):=aT _ xE;omega
    ·have:1*2 ^ (8*t.length+8)<=x.toNat*2 ^ (8*t.length+8):=aT _ xE;omega
   omega
 rw [key,a7l]
theorem dW {n:Nd}(h:(zG n).2=true):Ay (zG n).1=n/\(zG n).1=(AK n.bytes).getD []/\(Ai (zG n).1).isSome=true:=by
 unfold zG at h |-
 split at h
 ·rename_i hb;rw [xD hb];obtain⟨h1,h2,_⟩:=eO hb yD;simp only at h |-
  obtain⟨s,hs⟩:=yE.1 h;rw [hs,zw];have:=qR hs;simp only [Dq,xB,a_] at hb;refine⟨?_,trivial,by rw [this];rfl⟩;obtain⟨c,t,k,b,ks⟩:=n;simp only [Fb,FQ,HS,HD,Fs] at *;obtain⟨⟨rfl,rfl⟩,_⟩:=hb;subst h1 h2;unfold Ay;rw [this];rfl
 ·cases h
theorem oU {n:Nd}(h:(zG n).1≠[]):(zG n).2=true:=by
 unfold zG at h |-
 split at h
 ·rename_i hb;rw [xD hb];simp only at h |-
  cases ho:AK n.bytes with
  |none=>rw [ho] at h;exact absurd U h
  |some s=>rfl
 ·exact m196
theorem Sz {n:Nd}(hr:n.put.isSome=true) (h:(Bm n).1≠[]):(zG n).2=true/\(zG n).1=(Bm n).1:=by
 unfold Bm at h |-
 split at h
 ·rename_i hb;rw [xD hb];have hi:Dq n 6=true:=by unfold Dq;rw [hb,hr];rfl
  simp only at h |-
  have e:(zG n).1=(AK n.bytes).getD []:=by unfold zG;rw [xD hi]
  exact⟨oU (by rw [e];exact h),e⟩
 ·exact m196
theorem mj {a:At}(h:Ax a=true):(UK a).put.isSome=true:=by
 rw [<- fG] at h;unfold EB at h;simp only [xB,yu,a_] at h;obtain⟨⟨⟨h1,_⟩,h3⟩,h4⟩:=h;unfold UK;rw [dx];simp only [ya,zf,gx h1,xQ,yO];obtain⟨o,k,t⟩:=a;simp only at *;rcases h3 with (rfl|rfl)|rfl<;>exact iq yD h4
theorem SE {a:At}(h:Ax a=true):(Jc a).put.isSome=true:=by
 unfold Jc;rw [mn];simp only [ya,zf,mj h,yy,List.map_nil,yO,xQ];simp [E5,IC]
theorem a3i {a:At}(h:Ax a=true):atN a=Jc a:=by
 unfold atN MW Jc;rw [xD (mj h)]
theorem i9 (l:List At):AO l=ED l:=by
 unfold AO ED;by_cases h:C9 l=true
 ·rw [xD h,xD h];congr 1;refine xO λa ha=>a3i ?_;unfold C9 at h;rw [xB] at h;exact xH.1 h.2 a ha
 ·rw [xC h,xC h]
theorem dX {l:List At}:CW l=0<->C9 l=true:=by
 unfold CW;cases C9 l<;>simp
theorem jp {l:List At}(h:C9 l=true):(AO l).put.isSome=true:=by
 rw [i9];unfold ED;rw [xD h,dx,zp,xH];intro a ha;unfold C9 at h;rw [xB] at h;exact SE (xH.1 h.2 a ha)
def atR (k:Nd):At:=⟨(AK (kd (kd k 0) 0).bytes).getD [],(kd (kd k 0) 1).tag,(kd (kd k 0) 1).bytes⟩
theorem dM {n:Nd}(h:xR n 2 2=true) (hp:n.put.isSome=true):n=.mk 0 16 true [] [kd n 0,kd n 1]:=by
 simp only [xR,xB,a_] at h;obtain⟨⟨⟨⟨c1,c2⟩,c3⟩,c4⟩,c5⟩:=h;have hb:=(dn hp).1 c3;obtain⟨c,t,k,b,ks⟩:=n;simp only [Fb,FQ,HS,HD,Fs,kd] at *;subst c1 c2 c3 hb
 match ks,c4,c5 with
 |[a,b],_,_=>rfl
 |[],c4,_=>simp at c4
 |[_],c4,_=>simp at c4
 |_::_::_::_,_,c5=>simp at c5;omega
theorem ff {n:Nd}(hp:n.put.isSome=true) (h0:n.cls=0) (ht:n.tag=t) (hm:B6 0 t true=false):n=.mk 0 t false n.bytes []/\AJ t n.bytes=true:=by
 obtain⟨h1,h2,h3⟩:=k9 hp h0 ht hm;refine⟨?_,h3⟩;obtain⟨c,t,k,b,ks⟩:=n;simp only [Fb,FQ,HS,HD,Fs] at *;subst h0 ht h1 h2;rfl
theorem UL {k:Nd}(h:Kx k=true):k=Jc (Kw k)/\Kw k=atR k/\Ax (Kw k)=true:=by
 simp only [Kx,xB,a_] at h;obtain⟨⟨⟨⟨⟨⟨⟨h1,h2⟩,h3⟩,h4⟩,h5⟩,h6⟩,h7⟩,h8⟩:=h;obtain⟨o1,o2,_⟩:=dW h6;have hs:=fT h4 h1 h2 yD;have hk:k.kids=[kd k 0]:=by
  unfold kd
  match hh:k.kids,h3 with
  |[a],_=>rfl
  |[],h3=>simp at h3
  |_::_::_,h3=>simp at h3;omega
 have p0:(kd k 0).put.isSome=true:=bV h4 _ (by rw [hk];exact zS.2 U);have hq:=dM h5 p0;have p1:(kd (kd k 0) 1).put.isSome=true:=bV p0 _ (by rw [hq];simp [Fs,kd]);have hm:B6 0 (kd (kd k 0) 1).tag true=false:=by
  have h9:=h8;rw [<- fG] at h9;unfold EB at h9;simp only [xB,yu,a_] at h9;rcases h9.1.2 with (e|e)|e<;>(simp only [Kw] at e;rw [e];decide)
 have hv:=(ff p1 h7 U hm).1;have e:Kw k=atR k:=by unfold Kw atR;rw [o2]
 refine⟨?_,e,h8⟩;have hS:kd k 0=UK (Kw k):=by
  conv=>lhs;rw [hq]
  unfold UK Kw;simp only;rw [o1,<- hv]
 unfold Jc;rw [<- hS];obtain⟨c,t,kk,b,ks⟩:=k;simp only [Fb,FQ,HS,HD,Fs] at *;obtain⟨e1,e2⟩:=hs;subst h1 h2 e1 e2;rw [<- hk]
theorem a0a {a:At}(h:Ax a=true):Kx (Jc a)=true:=by
 have h1:(Ai a.zJ).isSome=true:=by
  have h9:=h;rw [<- fG] at h9;unfold EB at h9;simp only [xB] at h9;exact h9.1.1.1
 have hi:Dq (Ay a.zJ) 6=true:=by unfold Dq;rw [gx h1];simp [Ay,Fb,FQ]
 obtain⟨b,hb⟩:=yE.1 h1;have ho:(Ay a.zJ).bytes=b:=by simp [Ay,HD,hb]
 have ht:=v8 hb;obtain⟨s,hs⟩:=yE.1 ht;have e2:(zG (Ay a.zJ)).2=true:=by unfold zG;rw [xD hi,ho,hs];rfl
 have e1:(zG (Ay a.zJ)).1=s:=by unfold zG;rw [xD hi,ho,hs];rfl
 have hr:Ax ⟨s,a.kind,a.text⟩=true:=by
  unfold Ax at h |-
  simp only [qR hs,Hi,xQ];simp only [h1,xQ] at h;exact h
 have k0:kd (Jc a) 0=UK a:=rfl;have k1:kd (UK a) 0=Ay a.zJ:=rfl;have k2:kd (UK a) 1=.mk 0 a.kind false a.text []:=rfl;unfold Kx Kw;rw [k0,k1,k2,e1,e2,SE h];simp only [Fb,FQ,HD,hr];simp [Jc,UK,xR,Fb,FQ,HS,Fs]
def nmR (n:Nd):List At:=(n.kids.take 20).map atR
def HT (n:Nd):List At×Bool:=if decide (CW (nmR n)=0)&&(ED (nmR n)).beq n then(nmR n,true) else([],false)
theorem j5 (n:Nd):nameOf n=HT n:=by
 unfold nameOf HT;by_cases h:(xR n 0 16&&!decide (0<(n.bytes.length:Int))&&n.kids.all Kx)=true
 ·rw [xD h];simp only [xR,xB,yN,a_,xL] at h;obtain⟨⟨⟨⟨⟨⟨c1,c2⟩,c3⟩,c4⟩,c5⟩,hb⟩,zX⟩:=h;have hk:=λk hk=>UL (xH.1 zX k hk);have e1:n.kids.map Kw=nmR n:=by
   unfold nmR;rw [aD xE];exact xO λk h=>(hk k h).2.1
  have hB:C9 (nmR n)=true:=by
   rw [<- e1];unfold C9;rw [aq,ae c5,xQ,zp,xH];exact λk h=>(hk k h).2.2
  have e2:ED (nmR n)=n:=by
   unfold ED;rw [xD hB,<- e1,yv];have:n.kids.map (Jc∘Kw)=n.kids:=by
    conv=>rhs;rw [<- Ag n.kids]
    exact xO λk h=>(hk k h).1.symm
   rw [this];have hbb:n.bytes=[]:=xI xE;obtain⟨c,t,k,b,ks⟩:=n;simp only [Fb,FQ,HS,HD,Fs] at *;subst c1 c2 c3 hbb;rfl
  rw [xD (by rw [ae (dX.2 hB),e2,xQ];exact(Nd.beq_eq _ n n (aB _)).2 U),e1]
 ·rw [xC h,xC];intro hh;rw [xB,a_,dX] at hh;obtain⟨hB,he⟩:=hh;have e:=(Nd.beq_eq _ _ n (aB _)).1 he;apply h;generalize nmR n=l at *;unfold ED at e;rw [xD hB] at e;unfold C9 at hB;rw [xB,a_] at hB;subst e;simp only [xR,Fb,FQ,HS,HD,Fs,xB,aq,ay];refine⟨⟨?_,by simp⟩,?_⟩
  ·simp;omega
  ·rw [zp,xH];exact λa ha=>a0a (xH.1 hB.2 a ha)
def HI (s:yG):Int:=if Dz 256=s then 256 else if Dz 384=s then 384 else if Dz 512=s then 512 else 0
theorem wH {s:yG}(h:HI s≠0):AN (HI s)/\Dz (HI s)=s:=by
 unfold HI at h |-
 unfold AN;split
 ·rename_i h1;exact⟨.inl U,h1⟩
 ·rename_i h1;rw [xC h1] at h;split
  ·rename_i h2;exact⟨.inr (.inl U),h2⟩
  ·rename_i h2;rw [xC h2] at h;split
   ·rename_i h3;exact⟨.inr (.inr U),h3⟩
   ·rename_i h3;rw [xC h3] at h;exact m196
theorem fi {n:Nd}(h:Ao n≠0):CE (Ao n)=n/\AN (Ao n):=by
 have key:∀ x,AN x->Gk x=(zG (kd n 0)).1->(xR n 2 2&&Dq (kd n 1) 5&&n.put.isSome)=true->CE x=n:=λx hx he hc=>by
  simp only [xB] at hc;obtain⟨⟨c1,c2⟩,c3⟩:=hc;have D5:(zG (kd n 0)).1≠[]:=by
   rw [<- he];rcases hx with rfl|rfl|rfl<;>decide
  have ho:=(dW (oU D5)).1;rw [<- he] at ho;have c2':=c2;simp only [Dq,xB,a_] at c2';obtain⟨d1,d2⟩:=ff c2'.2 c2'.1.1 c2'.1.2 yD;rw [u6 U,a_] at d2;rw [xI d2] at d1;rw [ge hx,ho,<- d1];exact(dM c1 c3).symm
 unfold Ao at h |-
 split at h
 ·rename_i hc;rw [xD hc];split
  ·rename_i h1;exact⟨key _ (.inl U) h1 hc,.inl U⟩
  ·rename_i h1;rw [xC h1] at h;split
   ·rename_i h2;exact⟨key _ (.inr (.inl U)) h2 hc,.inr (.inl U)⟩
   ·rename_i h2;rw [xC h2] at h;split
    ·rename_i h3;exact⟨key _ (.inr (.inr U)) h3 hc,.inr (.inr U)⟩
    ·rename_i h3;rw [xC h3] at h;exact m196
 ·exact m196
variable{h:Int}
theorem fj (hh:AN h):Ao (CE h)=h:=by
 exact m99
theorem pY (hh:AN h):(CE h).put.isSome=true:=by
 exact m99
theorem vJ (hh:AN h):(Dl h).put.isSome=true:=by
 exact m99
def CX (n:Nd):Int:=if xR n 1 1 then HI (Bm (kd n 0)).1 else 0
theorem nJ (hh:AN h):CX (Dl h)=h:=by
 exact m99
theorem mN (hh:AN h):HI ((AK (kd (Dl h) 0).bytes).getD [])=h:=by
 exact m99
theorem xj {n:Nd}(hp:n.put.isSome=true) (h:CX n≠0):Dl (CX n)=n/\AN (CX n):=by
 unfold CX at h |-
 split at h
 ·rename_i hc;rw [xD hc];obtain⟨h1,h2⟩:=wH h;refine⟨?_,h1⟩;have hk:n.kids=[kd n 0]:=by
   simp only [xR,xB,a_] at hc;unfold kd
   match hh:n.kids,hc.1.2,hc.2 with
   |[a],_,_=>rfl
   |[],h3,_=>simp at h3
   |_::_::_,_,h3=>simp at h3;omega
  have p0:(kd n 0).put.isSome=true:=bV hp _ (by rw [hk];exact zS.2 U);have D5:(Bm (kd n 0)).1≠[]:=by
   rw [<- h2];rcases h1 with e|e|e<;>(rw [e];decide)
  obtain⟨o1,o2⟩:=Sz p0 D5;have ho:=(dW o1).1;rw [o2] at ho;unfold Dl;rw [h2,ho,<- hk];simp only [xR,xB,a_] at hc;obtain⟨⟨⟨⟨c1,c2⟩,c3⟩,_⟩,_⟩:=hc;have hb:=(dn hp).1 c3;exact m166
 ·exact m196
def Gy (s:Sg):Nat:=D6 (d32 s.xU) s.xU.length
def Ez (s:Sg):Bool:=if 0<(s.Ec.length:Int) then !decide (64<(s.Ec.length:Int))&&!decide (0<(Gy s:Int))&&!decide (0<(s.yg.length:Int)) else !decide ((Gy s:Int)=0)&&!decide (160<(Gy s:Int))&&decide (CW s.yg=0)
def z_ (s:Sg):Bool:=Ez s&&decide (0<A6 s.hash)&&MZ s.signed&&MZ s.yc&&decide (1<=(s.sig.length:Int))&&decide ((s.sig.length:Int)<=512)
def BJ (s:Sg):Nd:=if 0<(s.Ec.length:Int) then .mk 2 0 false s.Ec [] else .mk 0 16 true [] [AO s.yg,Bt s.xU]
def DH (s:Sg):Int:=if 0<(s.Ec.length:Int) then 3 else 1
def Et (t:Int) (l:List Fe):Nd:=.mk 2 t true [] (l.map yS)
def F5 (t:Int) (l:List Fe):LN:=if l=[] then [] else [Et t l]
def GC (b:yG):Nd:=.mk 0 4 false b []
def FL (s:Sg):LN:=.mk 0 2 false (B2 (DH s)) []::BJ s::Dl s.hash::(F5 0 s.signed++CE s.hash::GC s.sig::F5 1 s.yc)
def BW (s:Sg):Nd:=if z_ s then .mk 0 16 true [] (FL s) else DU
def Wj (s:Sg):Int:=if z_ s then 0 else 60
def za (ks:LN):List Fe×Bool:=if ks.all (λk=>(yU k).2) then(ks.map λk=>(yU k).1,MZ (ks.map λk=>(yU k).1)) else([],false)
def KV (ks:LN):List Fe×Bool:=if decide ((ks.length:Int)<=16)&&ks.all (λk=>(yU k).2) then(ks.map λk=>(yU k).1,true) else([],false)
theorem pG {k:Nd}(h:(yU k).2=true):yS (yU k).1=k:=by
 unfold yU at h |-
 split at h
 ·rename_i hk;rw [xD hk];obtain⟨_,h2,h3⟩:=j8 hk;rw [<- h3];exact h2
 ·cases h
theorem k_ (h:MZ l=true):l.length<=16:=by
 unfold MZ at h;split at h
 ·cases h
 ·omega
theorem WT (h:MZ l=true):∀ f∈l,Ck f=true:=by
 unfold MZ at h;split at h
 ·cases h
 ·split at h
  ·cases h
  ·exact λf hf=>fX.1 (uq l [] h f hf)
theorem kI {ks:LN}(h:(za ks).2=true):(za ks).1.map yS=ks/\KV ks=((za ks).1,true):=by
 unfold za at h |-
 split at h
 ·rename_i hk;rw [xD hk];simp only at h |-
  constructor
  ·rw [yv];conv=>rhs;rw [<- Ag ks]
   exact xO λk hh=>pG (xH.1 hk k hh)
  ·unfold KV;have:=k_ h;rw [aq] at this;rw [xD (by rw [hk,ae (p:=(ks.length:Int)<=16) xE];rfl)]
 ·cases h
theorem Z3 {ks:LN}(h:(KV ks).2=true) (hr:MZ (KV ks).1=true):za ks=((KV ks).1,true):=by
 unfold KV at h hr |-
 split at h
 ·rename_i hk;rw [xD hk] at hr |-
  simp only at hr |-
  rw [xB] at hk;unfold za;rw [xD hk.2,hr]
 ·cases h
def Ga (v w:Nd):Bool:=v.AA&&decide (v.tag=2)&&(if zd w 0 false then decide (v.D7=3) else xR w 2 2&&decide ((kd w 1).tag=2)&&(nameOf (kd w 0)).2&&(kd w 1).Cu&&decide (v.D7=1))
def DL (w:Nd):List At:=if zd w 0 false then [] else(nameOf (kd w 0)).1
def E2 (w:Nd):List UInt32:=if zd w 0 false then [] else(kd w 1).BE
def El (w:Nd):yG:=if zd w 0 false then w.bytes else []
def IU (w:Nd):List At:=if w.cls=2 then [] else(nameOf (kd w 0)).1
def KH (w:Nd):List UInt32:=if w.cls=2 then [] else(kd w 1).BE
def KG (w:Nd):yG:=if w.cls=2 then w.bytes else []
theorem fv {x:Nd}{c:Bool}(h:zd x t c=true):x.cls=2/\x.tag=t/\x.cons=c:=by
 simp only [zd,xB,a_,beq_iff_eq] at h;exact⟨h.1.1,h.1.2,h.2⟩
theorem TT {x:Nd}{l m:Int}(h:xR x l m=true):x.cls=0:=by
 simp only [xR,xB,a_] at h;exact h.1.1.1.1
theorem i7 {n:Nd}(h:(nameOf n).2=true):AO (nameOf n).1=n:=by
 rw [j5] at h |-
 unfold HT at h |-
 split at h
 ·rename_i hk;rw [xD hk];rw [xB] at hk;rw [i9];exact(Nd.beq_eq _ _ n (aB _)).1 hk.2
 ·cases h
theorem SW {v w:Nd}{s:Sg}(pw:w.put.isSome=true) (h:Ga v w=true) (hs:Ez s=true) (e1:s.yg=DL w) (e2:s.xU=E2 w) (e3:s.Ec=El w) :
 v=.mk 0 2 false (B2 (DH s)) []/\w=BJ s/\IU w=s.yg/\KH w=s.xU/\KG w=s.Ec:=by
 simp only [Ga,xB,a_] at h;obtain⟨⟨h1,h2⟩,h3⟩:=h;have hv:=ju h1 h2;unfold Ez at hs;rw [e1,e2,e3];unfold DL at e1;unfold E2 at e2;unfold El at e3;unfold DL E2 El IU KH KG;by_cases hc:zd w 0 false=true
 ·rw [xD hc] at h3 e1 e2 e3 |-
  rw [a_] at h3;obtain⟨q1,q2,q3⟩:=fv hc;have hk:=(dn pw).2 q3;have hl:0<(s.Ec.length:Int):=by
   refine Decidable.byContradiction λhn=>?_;rw [xC hn] at hs;have hb:Gy s=0:=by unfold Gy;rw [e2];rfl
   simp [hb] at hs
  unfold DH BJ;rw [xD hl,xD hl,xD hc,xD hc,xD q1,xD q1,xD q1,e3];refine⟨by rw [<- h3];exact hv,?_,U,U,U⟩;obtain⟨c,t,k,b,ks⟩:=w;simp only [Fb,FQ,HS,HD,Fs] at *;subst q1 q2 q3 hk;rfl
 ·rw [xC hc] at h3 e1 e2 e3 |-
  simp only [xB,a_] at h3;obtain⟨⟨⟨⟨k1,k2⟩,k3⟩,k4⟩,k5⟩:=h3;have hl:¬ 0<(s.Ec.length:Int):=by rw [e3];simp
  have hq:=TT k1;have hq':¬ w.cls=2:=by omega
  unfold DH BJ;rw [xC hl,xC hl,xC hc,xC hc,xC hq',xC hq',xC hq',e1,e2,i7 k3,i6 k4 k2];exact⟨by rw [<- k5];exact hv,dM k1 pw,U,U,U⟩
theorem tp (n:Int) (h0:-9223372036854775808<=n) (h1:n<=9223372036854775807):(Nd.mk 0 2 false (B2 n) []).put.isSome=true:=by
 have h:=(cK n h0 h1).1;rw [jv,xB] at h;have h2:=h.1;unfold Nd.whole at h2;simp only [xB] at h2;exact h2.2
theorem VC {s:Sg}(hs:Ez s=true) (f1:s.yg=IU (BJ s)) :
 (BJ s).put.isSome=true/\Ga (.mk 0 2 false (B2 (DH s)) []) (BJ s)=true/\DL (BJ s)=IU (BJ s)/\E2 (BJ s)=KH (BJ s)/\El (BJ s)=KG (BJ s):=by
 unfold Ez at hs;unfold BJ DH at *;by_cases hl:0<(s.Ec.length:Int)
 ·rw [xD hl,xD hl] at *;have hc:zd (Nd.mk 2 0 false s.Ec []) 0 false=true:=rfl;have hi:=cK 3 yD yD;refine⟨Zz yD,?_,by unfold DL IU;rw [xD hc];rfl,by unfold E2 KH;rw [xD hc];rfl,by unfold El KG;rw [xD hc];rfl⟩;unfold Ga;rw [xD hc,hi.1,hi.2.1];rfl
 ·rw [xC hl,xC hl] at *;simp only [xB,a_,dX] at hs;have hB:=hs.2;have hc:¬ zd (Nd.mk 0 16 true [] [AO s.yg,Bt s.xU]) 0 false=true:=by intro h;cases h
  have hi:=cK 1 yD yD;have P4:=cU s.xU;obtain⟨t,ht⟩:=lG s.xU;have k0:kd (Nd.mk 0 16 true [] [AO s.yg,Bt s.xU]) 0=AO s.yg:=rfl;have k1:kd (Nd.mk 0 16 true [] [AO s.yg,Bt s.xU]) 1=Bt s.xU:=rfl;have Ia:¬ (Nd.mk 0 16 true [] [AO s.yg,Bt s.xU]).cls=2:=by rw [Fb];decide
  refine⟨by rw [dx];simp [jp hB,ht],?_,by unfold DL IU;rw [xC hc,xC Ia],by unfold E2 KH;rw [xC hc,xC Ia],by unfold El KG;rw [xC hc,xC Ia]⟩;unfold Ga;rw [xC hc,hi.1,hi.2.1,k0,k1,P4.1];have hn:(nameOf (AO s.yg)).2=true:=by
   unfold IU at f1;rw [xC Ia,k0] at f1;cases hb:(nameOf (AO s.yg)).2 with
   |true=>rfl
   |false =>
    have e:(nameOf (AO s.yg)).1=[]:=by
     unfold nameOf at hb |-
     split at hb
     ·cases hb
     ·rename_i hh;rw [xC hh]
    rw [e] at f1;rw [f1] at hb;revert hb;rw [show(nameOf (AO [])).2=true by kernel_rfl];intro hb;cases hb
  rw [hn];rfl
abbrev lk (l:LN) (i:Nat):Nd:=l.getD i (.mk 0 0 false [] [])
def Fk (n:Nd):LN:=n.kids.drop 3
def Cq (n:Nd):Bool:=zd (lk (Fk n) 0) 0 true
def B4 (n:Nd):LN:=if Cq n then(Fk n).drop 1 else Fk n
def BV (n:Nd):Sg:=⟨DL (kd n 1),E2 (kd n 1),El (kd n 1),CX (kd n 2),if Cq n then(za (lk (Fk n) 0).kids).1 else [],(lk (B4 n) 1).bytes,if((B4 n).length:Int)=3 then(za (lk (B4 n) 2).kids).1 else []⟩
def HJ (n:Nd):Bool:=n.put.isSome&&xR n 5 7&&Ga (kd n 0) (kd n 1)&&decide (2<=((B4 n).length:Int))&&decide (((B4 n).length:Int)<=3)&&decide (Ao (lk (B4 n) 0)=CX (kd n 2))&&decide ((lk (B4 n) 1).cls=0)&&decide ((lk (B4 n) 1).tag=4)
 && (!Cq n||((za (lk (Fk n) 0).kids).2&&decide (0<((za (lk (Fk n) 0).kids).1.length:Int))))&&(!decide (((B4 n).length:Int)=3)||((za (lk (B4 n) 2).kids).2&&zd (lk (B4 n) 2) 1 true&&decide (0<((za (lk (B4 n) 2).kids).1.length:Int))))&&z_ (BV n)
def sg0:Sg:=⟨[],[],[],0,[],[],[]⟩
def C5 (n:Nd):Sg×Bool:=if HJ n then(BV n,true) else(sg0,false)
def Fl (n:Nd):Bool:=decide ((kd n 3).cls=2)
def LS (n:Nd):Nat:=if Fl n then 4 else 3
def I' (n:Nd):Sg:=⟨IU (kd n 1),KH (kd n 1),KG (kd n 1),HI ((AK (kd (kd n 2) 0).bytes).getD []),if Fl n then(KV (kd n 3).kids).1 else [],(kd n (LS n+1)).bytes,(KV (kd n (LS n+2)).kids).1⟩
def IG (n:Nd):Bool:=(!Fl n||(KV (kd n 3).kids).2)&&(KV (kd n (LS n+2)).kids).2&&z_ (I' n)&&(BW (I' n)).beq n
theorem Wh {a b:Sg}(h1:a.yg=b.yg) (h2:a.xU=b.xU) (h3:a.Ec=b.Ec) (h4:a.hash=b.hash) (h5:a.signed=b.signed) (h6:a.sig=b.sig) (h7:a.yc=b.yc):a=b:=by
 cases a;cases b;simp_all
theorem jw (k:0<A6 h):AN h:=by
 unfold A6 at k;split at k
 ·assumption
 ·omega
theorem jS (k:AN h):h≠0:=by unfold AN at k;omega
theorem kP {x:Nd}(hp:x.put.isSome=true) (h:zd x t true=true) (hl:l.map yS=x.kids):x=Et t l:=by
 obtain⟨q1,q2,q3⟩:=fv h;have hb:=(dn hp).1 q3;unfold Et;obtain⟨c,t,k,b,ks⟩:=x;simp only [Fb,FQ,HS,HD,Fs] at *;subst q1 q2 q3 hb hl;rfl
theorem vR (ht:0<=t/\t<=30) (h:MZ l=true):(Et t l).put.isSome=true:=by
 unfold Et;rw [tL ht,zp,xH];exact λf hf=>nH (WT h f hf)
theorem c_ (t:Int):F5 t []=[]:=rfl
theorem bT (h:l≠[]):F5 t l=[Et t l]:=xC h
theorem dP (h:0<(l.length:Int)):l≠[]:=by rintro rfl;simp at h
theorem pZ (hh:AN h):(CE h).cls=0:=by rw [ge hh,Fb]
theorem a0h {h t:Int}{c:Bool}(hh:AN h):zd (CE h) t c=false:=by rw [ge hh];rfl
theorem ul {n:Nd}(h:HJ n=true):IG n=true/\I' n=BV n:=by
 simp only [HJ,xB,a_] at h;obtain⟨⟨⟨⟨⟨⟨⟨⟨⟨⟨h1,h2⟩,h3⟩,h4⟩,h5⟩,h6⟩,h7⟩,h8⟩,h9⟩,K2⟩,Vd⟩:=h;have hr:=Vd;simp only [z_,xB,a_] at hr;obtain⟨⟨⟨⟨⟨r1,r2⟩,r3⟩,r4⟩,r5⟩,r6⟩:=hr;have hh:AN (CX (kd n 2)):=jw r2;have Dj:=bV h1;simp only [xR,xB,a_] at h2;obtain⟨⟨⟨⟨c1,c2⟩,c3⟩,c4⟩,c5⟩:=h2;have hb:=(dn h1).1 c3;obtain⟨c,t,k,b,ks⟩:=n;simp only [Fb,FQ,HS,HD,Fs] at c1 c2 c3 c4 c5 hb Dj;subst c1 c2 c3 hb;obtain⟨v,w,d,x,y,r,rfl⟩:∃ v w d x y r,ks=v::w::d::x::y::r:=by
  match ks,c4 with
  |v::w::d::x::y::r,_=>exact⟨v,w,d,x,y,r,U⟩
  |[],c4=>simp at c4
  |[_],c4=>simp at c4
  |[_,_],c4=>simp at c4
  |[_,_,_],c4=>simp at c4
  |[_,_,_,_],c4=>simp at c4
 generalize hN:Nd.mk 0 16 true [] (v::w::d::x::y::r)=n at *;have k0:kd n 0=v:=by rw [<- hN];rfl
 have k1:kd n 1=w:=by rw [<- hN];rfl
 have k2:kd n 2=d:=by rw [<- hN];rfl
 have k3:kd n 3=x:=by rw [<- hN];rfl
 have kT:Fk n=x::y::r:=by rw [<- hN];rfl
 have pw:=Dj w (by simp);have pd:=Dj d (by simp);have px:=Dj x (by simp);have py:=Dj y (by simp);rw [k0,k1] at h3;obtain⟨w1,w2,w3,w4,w5⟩:=SW (s:=BV n) pw h3 r1 (by rw [<- k1];rfl) (by rw [<- k1];rfl) (by rw [<- k1];rfl);rw [k2] at hh;obtain⟨d1,_⟩:=xj pd (jS hh);have MY:(BV n).hash=CX d:=by rw [<- k2];rfl
 have sIs:(BV n).yg=IU w:=w3.symm;have sSe:(BV n).xU=KH w:=w4.symm;have sSk:(BV n).Ec=KG w:=w5.symm;have dR:=mN hh;rw [d1] at dR;rw [k2] at h6;have fin:∀ (e3:Fl n=Cq n) (e5:(I' n).signed=(BV n).signed) (e6:(I' n).sig=(BV n).sig) (e7:(I' n).yc=(BV n).yc) (eK:v::w::d::x::y::r=FL (BV n)) (f1:Cq n=true->(KV x.kids).2=true) (f2:(KV (kd n (LS n+2)).kids).2=true),IG n=true/\I' n=BV n:=by
  intro e3 e5 e6 e7 eK f1 f2;have e:I' n=BV n:=Wh (by rw [sIs,<- k1];rfl) (by rw [sSe,<- k1];rfl) (by rw [sSk,<- k1];rfl) (by rw [MY,<- dR,<- k2];rfl) e5 e6 e7;refine⟨?_,e⟩;unfold IG;rw [e,Vd,f2,e3,k3];have e8:BW (BV n)=n:=by unfold BW;rw [xD Vd,<- eK,hN]
  rw [e8,(Nd.beq_eq _ n n (aB _)).2 rfl];cases hz:Cq n with
  |false=>rfl
  |true=>rw [f1 hz];rfl
 cases hz:Cq n with
 |true =>
  have hx:zd x 0 true=true:=by
   have V3:=hz;unfold Cq at V3;rw [kT] at V3;exact V3
  have kU:B4 n=y::r:=by unfold B4;rw [hz,xD U,kT];rfl
  rw [kU] at h4 h5 h6 h7 h8 K2;rw [hz,kT] at h9;simp only [ym,BN,xB,a_,lk,Av,BC] at h9 h6 h7 h8;obtain⟨g1,g2⟩:=kI h9.1;have sSi:(BV n).signed=(za x.kids).1:=by unfold BV;rw [hz,xD U,kT];rfl
  have Ph:Fl n=true:=by unfold Fl;rw [k3];exact ae (fv hx).1
  have hI:LS n=4:=by unfold LS;rw [Ph];rfl
  have hy:CE (CX d)=y:=by rw [<- h6];exact(fi (by rw [h6];exact jS hh)).1
  have hX:=kP px hx g1;have rSi:(I' n).signed=(za x.kids).1:=by unfold I';rw [Ph,xD U,k3,g2]
  match r,h4,h5,Dj,h7,h8,K2,kU,hN,fin with
  |[],h4,_,_,_,_,_,_,_,_=>simp at h4
  |[z],_,_,Dj,h7,h8,_,kU,hN,fin =>
   simp only [Av] at h7 h8;have pz:=Dj z (by simp);have V3:=(ff pz h7 h8 yD).1;have sU:(BV n).yc=[]:=by unfold BV;rw [kU];rfl
   have sS:(BV n).sig=z.bytes:=by unfold BV;rw [kU];rfl
   have k6:kd n 6=.mk 0 0 false [] []:=by rw [<- hN];rfl
   refine fin (by rw [Ph,hz]) (by rw [rSi,sSi]) (by rw [sS];unfold I';rw [hI,<- hN];rfl) (by rw [sU];unfold I';rw [hI,k6];rfl) ?_ (λ_=>by rw [g2]) (by rw [hI,k6];rfl);unfold FL;rw [<- w1,<- w2,MY,sSi,sU,sS,d1,bT (dP h9.2),c_,<- hX,hy];unfold GC;rw [<- V3];rfl
  |[z,u],_,_,Dj,h7,h8,K2,kU,hN,fin =>
   simp only [Av] at h7 h8;have pz:=Dj z (by simp);have pu:=Dj u (by simp);have V3:=(ff pz h7 h8 yD).1;have NF:decide (((y::[z,u]).length:Int)=3)=true:=rfl;rw [NF] at K2;simp only [ym,BN,xB,a_,lk,Av,BC] at K2;obtain⟨⟨h12,h13⟩,h14⟩:=K2;obtain⟨g3,g4⟩:=kI h12;have hU:=kP pu h13 g3;have sU:(BV n).yc=(za u.kids).1:=by unfold BV;rw [kU];rfl
   have sS:(BV n).sig=z.bytes:=by unfold BV;rw [kU];rfl
   have k6:kd n 6=u:=by rw [<- hN];rfl
   refine fin (by rw [Ph,hz]) (by rw [rSi,sSi]) (by rw [sS];unfold I';rw [hI,<- hN];rfl) (by rw [sU];unfold I';rw [hI,k6,g4]) ?_ (λ_=>by rw [g2]) (by rw [hI,k6,g4]);unfold FL;rw [<- w1,<- w2,MY,sSi,sU,sS,d1,bT (dP h9.2),bT (dP h14),<- hX,<- hU,hy];unfold GC;rw [<- V3];rfl
  |_::_::_::_,_,h5,_,_,_,_,_,_,_=>simp at h5;omega
 |false =>
  have kU:B4 n=x::y::r:=by unfold B4;rw [hz,xC (by simp),kT]
  rw [kU] at h4 h5 h6 h7 h8 K2;simp only [lk,Av,BC] at h6 h7 h8;have sSi:(BV n).signed=[]:=by unfold BV;rw [hz];rfl
  have hx:CE (CX d)=x:=by rw [<- h6];exact(fi (by rw [h6];exact jS hh)).1
  have Ph:Fl n=false:=by unfold Fl;rw [k3,<- hx,pZ hh];rfl
  have hI:LS n=3:=by unfold LS;rw [Ph];rfl
  have rSi:(I' n).signed=[]:=by unfold I';rw [Ph];rfl
  have hy2:=(ff py h7 h8 yD).1;have sS:(BV n).sig=y.bytes:=by unfold BV;rw [kU];rfl
  have k4:kd n 4=y:=by rw [<- hN];rfl
  match r,h5,Dj,K2,kU,hN,fin with
  |[],_,Dj,_,kU,hN,fin =>
   have sU:(BV n).yc=[]:=by unfold BV;rw [kU];rfl
   have k5:kd n 5=.mk 0 0 false [] []:=by rw [<- hN];rfl
   refine fin (by rw [Ph,hz]) (by rw [rSi,sSi]) (by rw [sS];unfold I';rw [hI,k4]) (by rw [sU];unfold I';rw [hI,k5];rfl) ?_ (λh=>by rw [hz] at h;cases h) (by rw [hI,k5];rfl);unfold FL;rw [<- w1,<- w2,MY,sSi,sU,sS,d1,c_,c_,hx];unfold GC;rw [<- hy2];rfl
  |[u],_,Dj,K2,kU,hN,fin =>
   have pu:=Dj u (by simp);have NF:decide (((x::y::[u]).length:Int)=3)=true:=rfl;rw [NF] at K2;simp only [ym,BN,xB,a_,lk,Av,BC] at K2;obtain⟨⟨h12,h13⟩,h14⟩:=K2;obtain⟨g3,g4⟩:=kI h12;have hU:=kP pu h13 g3;have sU:(BV n).yc=(za u.kids).1:=by unfold BV;rw [kU];rfl
   have k5:kd n 5=u:=by rw [<- hN];rfl
   refine fin (by rw [Ph,hz]) (by rw [rSi,sSi]) (by rw [sS];unfold I';rw [hI,k4]) (by rw [sU];unfold I';rw [hI,k5,g4]) ?_ (λh=>by rw [hz] at h;cases h) (by rw [hI,k5,g4]);unfold FL;rw [<- w1,<- w2,MY,sSi,sU,sS,d1,c_,bT (dP h14),<- hU,hx];unfold GC;rw [<- hy2];rfl
  |_::_::_,h5,_,_,_,_,_=>simp at h5;omega
theorem a0X {n:Nd}(h:IG n=true):HJ n=true:=by
 simp only [IG,xB] at h;obtain⟨⟨⟨h1,h2⟩,h3⟩,h4⟩:=h;have hn:=(Nd.beq_eq _ _ n (aB _)).1 h4;unfold BW at hn;rw [xD h3] at hn;have f1:(I' n).yg=IU (kd n 1):=rfl;have f2:(I' n).xU=KH (kd n 1):=rfl;have f3:(I' n).Ec=KG (kd n 1):=rfl;have f5:(I' n).signed=if Fl n then(KV (kd n 3).kids).1 else []:=rfl;have f7:(I' n).yc=(KV (kd n (LS n+2)).kids).1:=rfl;generalize I' n=s at *;have hr:=h3;simp only [z_,xB,a_] at hr;obtain⟨⟨⟨⟨⟨r1,r2⟩,r3⟩,r4⟩,r5⟩,r6⟩:=hr;have hh:=jw r2;have k0:kd n 0=.mk 0 2 false (B2 (DH s)) []:=by rw [<- hn];rfl
 have k1:kd n 1=BJ s:=by rw [<- hn];rfl
 have k2:kd n 2=Dl s.hash:=by rw [<- hn];rfl
 have kT:Fk n=F5 0 s.signed++CE s.hash::GC s.sig::F5 1 s.yc:=by rw [<- hn];rfl
 rw [k1] at f1 f2 f3;obtain⟨w1,w2,w3,w4,w5⟩:=VC r1 f1;have pv:(Nd.mk 0 2 false (B2 (DH s)) []).put.isSome=true:=tp _ (by unfold DH;split<;>decide) (by unfold DH;split<;>decide);have po:(GC s.sig).put.isSome=true:=iq yD (by unfold AJ;simp);have TX:n.put.isSome=true:=by
  rw [<- hn,dx];unfold FL;simp only [ya,yr,pv,w1,vJ hh,pY hh,po,xQ,xB];constructor
  ·unfold F5;split
   ·rfl
   ·simp [vR (t:=0) yD r3]
  ·unfold F5;split
   ·rfl
   ·simp [vR (t:=1) yD r4]
 have a6b:xR n 5 7=true:=by
  have l0:(F5 0 s.signed).length<=1:=by unfold F5;split<;>simp
  have l1:(F5 1 s.yc).length<=1:=by unfold F5;split<;>simp
  rw [<- hn];simp only [xR,Fb,FQ,HS,Fs,FL,aw,aF,xB,a_];refine⟨⟨⟨⟨by first|trivial|rfl,by first|trivial|rfl⟩,by first|trivial|rfl⟩,by omega⟩,by omega⟩
 have fin:∀ (e5:(BV n).signed=s.signed) (e6:(BV n).sig=s.sig) (e7:(BV n).yc=s.yc) (q1:(decide (2<=((B4 n).length:Int))&&decide (((B4 n).length:Int)<=3)&&decide (Ao (lk (B4 n) 0)=s.hash)&&decide ((lk (B4 n) 1).cls=0)&&decide ((lk (B4 n) 1).tag=4))=true)
  (q2:(!Cq n||((za (lk (Fk n) 0).kids).2&&decide (0<((za (lk (Fk n) 0).kids).1.length:Int))))=true) (q3:(!decide (((B4 n).length:Int)=3)||((za (lk (B4 n) 2).kids).2&&zd (lk (B4 n) 2) 1 true&&decide (0<((za (lk (B4 n) 2).kids).1.length:Int))))=true),HJ n=true:=by
  intro e5 e6 e7 q1 q2 q3;have e:BV n=s:=Wh (by show DL (kd n 1)=_;rw [k1,w3,<- f1]) (by show E2 (kd n 1)=_;rw [k1,w4,<- f2]) (by show El (kd n 1)=_;rw [k1,w5,<- f3]) (by show CX (kd n 2)=_;rw [k2,nJ hh]) e5 e6 e7;have q1':=q1;simp only [xB] at q1';obtain⟨⟨⟨⟨a1,a2⟩,a3⟩,a4⟩,a5⟩:=q1';unfold HJ;rw [e,h3,TX,a6b,k0,k1,k2,w2,nJ hh,a1,a2,a3,a4,a5,q2,q3];rfl
 have nz:∀ {l:List Fe},l≠[]->0<(l.length:Int):=λh=>by
  have:=As.2 h;omega
 by_cases u1:s.signed=[]
 ·rw [u1,c_,xP] at kT;have hz:Cq n=false:=by unfold Cq;rw [kT];exact a0h hh
  have kU:B4 n=CE s.hash::GC s.sig::F5 1 s.yc:=by unfold B4;rw [hz,xC (by simp),kT]
  have eS:(BV n).signed=s.signed:=by rw [u1];unfold BV;rw [hz];rfl
  have eG:(BV n).sig=s.sig:=by unfold BV;rw [kU];rfl
  by_cases u2:s.yc=[]
  ·rw [u2,c_] at kU;refine fin eS eG (by rw [u2];unfold BV;rw [kU];rfl) ?_ (by rw [hz];rfl) (by rw [kU];rfl);exact m163
  ·rw [bT u2] at kU;have k3:kd n 3=CE s.hash:=by rw [<- hn];unfold FL;rw [u1];rfl
   have Ph:Fl n=false:=by unfold Fl;rw [k3,pZ hh];rfl
   have hI:LS n=3:=by unfold LS;rw [Ph];rfl
   have k5:kd n 5=Et 1 s.yc:=by rw [<- hn];unfold FL;rw [u1,bT u2];rfl
   rw [hI,k5] at h2 f7;have hp:=Z3 h2 (by rw [<- f7];exact r4);rw [<- f7] at hp;refine fin eS eG (by unfold BV;rw [kU];show(za (Et 1 s.yc).kids).1=_;rw [hp]) ?_ (by rw [hz];rfl) ?_
   ·exact m163
   ·rw [kU];show(!true||((za (Et 1 s.yc).kids).2&&zd (Et 1 s.yc) 1 true&&decide (0<((za (Et 1 s.yc).kids).1.length:Int))))=true;rw [hp,ae (nz u2)];rfl
 ·rw [bT u1] at kT;have hz:Cq n=true:=by unfold Cq;rw [kT];rfl
  have kU:B4 n=CE s.hash::GC s.sig::F5 1 s.yc:=by unfold B4;rw [hz,xD U,kT];rfl
  have k3:kd n 3=Et 0 s.signed:=by rw [<- hn];unfold FL;rw [bT u1];rfl
  have Ph:Fl n=true:=by unfold Fl;rw [k3];rfl
  have hI:LS n=4:=by unfold LS;rw [Ph];rfl
  rw [Ph,k3] at h1;rw [Ph,xD U,k3] at f5;have hp:=Z3 (ks:=(Et 0 s.signed).kids) (by simpa using h1) (by rw [<- f5];exact r3);rw [<- f5] at hp;have eS:(BV n).signed=s.signed:=by unfold BV;rw [hz,xD U,kT];show(za (Et 0 s.signed).kids).1=_;rw [hp]
  have eG:(BV n).sig=s.sig:=by unfold BV;rw [kU];rfl
  have q2:(!Cq n||((za (lk (Fk n) 0).kids).2&&decide (0<((za (lk (Fk n) 0).kids).1.length:Int))))=true:=by
   rw [hz,kT];show(!true||((za (Et 0 s.signed).kids).2&&decide (0<((za (Et 0 s.signed).kids).1.length:Int))))=true;rw [hp,ae (nz u1)];rfl
  by_cases u2:s.yc=[]
  ·rw [u2,c_] at kU;refine fin eS eG (by rw [u2];unfold BV;rw [kU];rfl) ?_ q2 (by rw [kU];rfl);exact m163
  ·rw [bT u2] at kU;have k6:kd n 6=Et 1 s.yc:=by rw [<- hn];unfold FL;rw [bT u1,bT u2];rfl
   rw [hI,k6] at h2 f7;have Me:=Z3 h2 (by rw [<- f7];exact r4);rw [<- f7] at Me;refine fin eS eG (by unfold BV;rw [kU];show(za (Et 1 s.yc).kids).1=_;rw [Me]) ?_ q2 ?_
   ·exact m163
   ·rw [kU];show(!true||((za (Et 1 s.yc).kids).2&&zd (Et 1 s.yc) 1 true&&decide (0<((za (Et 1 s.yc).kids).1.length:Int))))=true;rw [Me,ae (nz u2)];rfl
theorem si {h:Part}{cs:LV}{x:UInt32}:Bf h cs x<->yp (Ie x) h cs:=by
 exact m105
theorem fY {h:Part}{x:Value}{l:List UInt32}:Den (.ws l) h x<->∃ a c,x=.slice a l.length c/\A3 Bf 1 h a c l:=by
 rw [iN];constructor
 ·rintro⟨a,c,e,r⟩;exact⟨a,c,e,r.imp U (aP h) (λi p q cs h1 h2 h3=>by rw [h1] at h2;cases h2;exact si.2 h3)⟩
 ·rintro⟨a,c,e,r⟩;exact⟨a,c,e,r.imp U (aP h) (λi p q cs h1 h2 h3=>by rw [h1] at h2;cases h2;exact si.1 h3)⟩
abbrev zQ (l:List UInt32):Int:=(D6 (d32 l) l.length:Nat)
theorem jm (l:List UInt32):yq prog 154 [.ws l] (.i (zQ l)):=.mk λh vs hT hd=>by
 obtain⟨v,rfl,h1⟩:=ll hd;obtain⟨a,c,rfl,hR⟩:=fY.1 h1;exact(iz hR).d (bh (h:=h))
instance:Cn prog 154 (type_of% @jm):=⟨@jm⟩
theorem gX (l:List UInt32) (hl:l.length<=1000000):yq prog 200 [.ws l] (.i (zQ l)):=.mk λh vs hT hd=>by
 obtain⟨v,rfl,h1⟩:=ll hd;obtain⟨a,c,rfl,hR⟩:=fY.1 h1;exact(lB hR hl).mono λv h' _ e=>⟨_,U,by rw [e];exact bh (h:=h')⟩
instance:Cn prog 200 (type_of% @gX):=⟨@gX⟩
theorem gD (l:List UInt32) (hl:l.length<=4096):yq prog 224 [.ws l] (.nd (Bt l)):=.mk λh vs hT hd=>by
 obtain⟨v,rfl,h1⟩:=ll hd;obtain⟨a,c,rfl,hR⟩:=fY.1 h1;exact(Uo hR hl).mono λv h' _ ⟨cs,e,r⟩=>⟨_,U,by rw [e];exact(fw (h:=h')).2 ⟨cs,U,r⟩⟩
instance:Cn prog 224 (type_of% @gD):=⟨@gD⟩
theorem me (l:List UInt32) (hl:l.length<=4096):yq prog 210 [.ws l] (.nd (Bt l)):=.mk λh vs hT hd=>by
 obtain⟨v,rfl,h1⟩:=ll hd;obtain⟨a,c,rfl,hR⟩:=fY.1 h1;exact(a1h hR hl).mono λv h' _ ⟨cs,e,r⟩=>⟨_,U,by rw [e];exact(fw (h:=h')).2 ⟨cs,U,r⟩⟩
instance:Cn prog 210 (type_of% @me):=⟨@me⟩
theorem mg (n:Int) (h0:-9223372036854775808<=n) (h1:n<=9223372036854775807):yq prog 107 [.i n] (.nd (.mk 0 2 false (B2 n) [])):=a5b n h0 h1
instance:Cn prog 107 (type_of% @mg):=⟨@mg⟩
instance:Cn prog 31 (type_of% @pB):=⟨@pB⟩
theorem mF (x:Nd) (hz:x.sz<=1073741824):yq prog 172 [.nd x] (.zZ [.ws x.BE,.b x.Cu]):=.mk λh vs hT hd=>by
 obtain⟨v,rfl,h1⟩:=ll hd;obtain⟨cs,rfl,hR⟩:=fw.1 h1;exact(XT hR hT hz).mono λv h' _ ⟨a,c,e,r⟩=>⟨_,U,by rw [e];exact rE (fY.2 ⟨_,_,U,r⟩) ((cC (h:=h')).2 U)⟩
instance:Cn prog 172 (type_of% @mF):=⟨@mF⟩
theorem uK (a b:List UInt32) (ha:a.length<=1000000) (hb:b.length<=1000000):yq prog 112 [.ws a,.ws b] (.i (B3 (vL a) (vL b))):=.mk λh vs hT hd=>by
 obtain⟨v,w,rfl,h1,h2⟩:=Zf hd;obtain⟨_,_,rfl,hR⟩:=fY.1 h1;obtain⟨_,_,rfl,hR'⟩:=fY.1 h2;exact(a1t hR hR' ha hb).mono λv h' _ e=>⟨_,U,by rw [e];exact bh (h:=h')⟩
def isS (P:Program) (t:Nat):Bool:=match P.underlying t with|some .string=>true|_=>false
def a2K (P:Program) (T:Nat):Bool:=match P.underlying T with
 |some (.struct fs)=>match fs.toList with
  | [f, g, k] => f.name != "_" && (g.name != "_" && (k.name != "_" && (Nat.beq f.offset 0 && (Nat.beq g.offset 1 && (Nat.beq k.offset 2 && (isS P f.type && (isI P g.type && (isS P k.type && (!P.stoodInHeld T && !P.eqGuardType P.depth T)))))))))
  |_=>false
 |_=>false
theorem jj {t:Nat}(h:isS P t=true) (cs:Array Value) (o:Nat) (v:Value) (hv:cs[o]?=some v) (w:World):(part t cs o).run P w=.ok v w:=by
 unfold isS at h;split at h
 ·rename_i hk;simp [part,isAgg,run_underlying hk,hv]
 ·cases h
theorem Qg {t:Nat}(h:isS P t=true) (d:Nat) (a b:ByteArray) (w:World):(Op.equalIn (d+1) t (.string a) (.string b)).run P w=.ok (a.toList == b.toList) w:=by
 unfold isS at h;split at h
 ·rename_i hk;exact run_equalIn_string w d t a b hk
 ·cases h
theorem WA {T:TypeId}{k:IntKind}{s t:ByteArray}{p:Int}(hT:a2K P T=true) (w:World):(Op.equalIn 10000 T (.agg #[.string s,.int k p,.string t]) (.agg #[.string s,.int k p,.string t])).run P w=.ok true w/\P.eqGuardType P.depth T=false:=by
 unfold a2K at hT;split at hT<;>try cases hT
 rename_i fs hu;split at hT<;>try cases hT
 rename_i fa ga ka hfs;simp only [xB,yd,ym,bne_iff_ne,ne_eq] at hT;obtain⟨n1,n2,n3,o1,o2,o3,i1,i2,i3,hs,hg⟩:=hT;have o1:=am o1;have o2:=am o2;have o3:=am o3;have J_:P.fieldsOf T=fs:=by unfold Program.fieldsOf;rw [hu]
 refine⟨?_,hg⟩;have e1:=Qg i1 9998 s s w;have e2:=a1d i2 9998 k p p w;have e3:=Qg i3 9998 t t w;simp only [beq_self_eq_true] at e1 e2 e3;rw [run_equalIn_struct w 9999 T _ _ (by rw [J_];exact hu) hs,J_,hfs];simp only [Op.eqFields,n1,n2,n3,ne_eq,not_false_eq_true,if_true,o1,o2,o3,AW];rw [jj i1 _ 0 (.string s) rfl];simp only [Result.andThen];rw [jj i1 _ 0 (.string s) rfl];simp only [Result.andThen];rw [e1];simp only [Result.andThen,ym,bg,if_false,AW];rw [qr i2 _ 1 (.int k p) rfl];simp only [Result.andThen];rw [qr i2 _ 1 (.int k p) rfl];simp only [Result.andThen];rw [e2];simp only [Result.andThen,ym,bg,if_false,AW];rw [jj i3 _ 2 (.string t) rfl];simp only [Result.andThen];rw [jj i3 _ 2 (.string t) rfl];simp only [Result.andThen];rw [e3];simp
theorem xG.b0i {f:Fr}{S:AH}{h:Part}{L:LE}{ty T yt:TypeId}{xo yo:Operand}{k:IntKind}{s t:ByteArray}{p:Int}(hT:a2K f.P T=true) (hx:ev S xo=some (.agg #[.string s,.int k p,.string t])) (hy:ev S yo=some (.agg #[.string s,.int k p,.string t])) :
 xG f S h L (.binOp .neq T xo yo yt) ty (.bool false):=bO hx hy λw=>by
 obtain⟨U2,hg⟩:=WA (k:=k) (p:=p) (s:=s) (t:=t) hT w;have hgd:=run_eqGuard_agg (P:=f.P) w .neq T xo yo #[.string s,.int k p,.string t] #[.string s,.int k p,.string t] hg;simp only [AW,hgd,Result.andThen,run_neq_struct,U2,ym]
theorem Ze {h:Part}{a:At}{v:Value}(k0:Den (.st (At.enc a)) h v):v=.agg #[.string ⟨a.zJ.toArray⟩,.int .i64 a.kind,.string ⟨a.text.toArray⟩]:=by
 obtain⟨cs,rfl,k⟩:=cA.1 k0;clear k0;unfold At.enc at k;unfold yp at k;obtain⟨v1,t1,rfl,_,d1,k⟩:=k;unfold yp at k;obtain⟨v2,t2,rfl,_,d2,k⟩:=k;unfold yp at k;obtain⟨v3,t3,rfl,_,d3,k⟩:=k;unfold yp at k;subst k;rw [cY.1 d1,cY.1 d2,cY.1 d3]
section
variable {P:Program} [Tb P] {F:Fd}{a:LO}{o:LQ}{ops:Array Oper}{d T:Nat}{ty yt:TypeId}{pos:String}{af:Array Edge}{g:Option (Nat×Bool)}{xo yo:Operand}{z:At}
theorem yi.b0h (hT:a2K P T=true) (hx:z' a xo=some (.d (.st (At.enc z)))) (hy:z' a yo=some (.d (.st (At.enc z)))) (hg:Cc ops a g=some true) (hd:Nat.blt d F.m=true) :
 yi P F ops a o ⟨some d,.binOp .neq T xo yo yt,ty,pos,af,g⟩ d (.d (.bq false)):=.run hg hd λρ h S L cz=>by
 obtain⟨v,h1,h2⟩:=bv cz hx;obtain⟨w,h3,h4⟩:=bv cz hy;rw [Ze h2] at h1;rw [Ze h4] at h3;exact⟨_,xG.b0i hT h1 h3,(cC (h:=h)).2 U⟩
end
theorem iT (l:List At) (hl:l.length<=1000000000000):yq prog 111 [.sl 3 At.enc l,.sl 3 At.enc l] (.b true):=by
 refine an func111 U ntmps111 U (λe=>?_);refine W ?_;refine Ci U (λh=>absurd U h) (λh=>?_);refine W ?_;refine Lp (γ:=Nat) (λg=>g<=l.length) (λg=>l.length+1-g) (λg=>[(0,.d (.sl 3 At.enc l)),(1,.d (.sl 3 At.enc l)),(5,.d (.i (g:Int)))]) (λ_=>[]) 0 xE y9 trivial ?_;intro g hg;refine W ?_;refine Ci U (λh2=>?_) (λh2=>?_)
 ·refine W ?_;refine bm U (yi.b0h (z:=l.getD g default) cq U U U U) ?_;refine W ?_;exact⟨g+1,by omega,by omega,y9,trivial⟩
 ·exact m10
instance:Cn prog 111 (type_of% @iT):=⟨@iT⟩
theorem Q_ (s:yG):yq prog 267 [.s s] (.i (HI s)):=by
 unfold HI;refine an func267 U ntmps267 U (λe=>?_);refine W ?_;refine aI (yi.bAr (zs:=List.replicate 3 (.int .i64 0)) cq U U U U U) ?_;refine W ?_;refine Lp (λg:Nat=>g<=3/\(1<=g->¬ Dz 256=s)/\(2<=g->¬ Dz 384=s)/\(3<=g->¬ Dz 512=s)) (λg=>4-g)
  (λg=>[(0,.d (.s s)),(5,.d (.st [.i 256,.i 384,.i 512])),(6,.d (.i (g:Int)))]) (λ_=>[]) 0 ⟨by omega,by omega,by omega,by omega⟩ y9 trivial ?_
 rintro g ⟨h0,h1,h2,h3⟩;obtain rfl|rfl|rfl|rfl:g=0\/g=1\/g=2\/g=3:=by omega
 ·refine W ?_;refine aI (d_ (len:=3) 0 cq U U U U U U U) ?_;refine W ?_;refine Ci U (λhq=>?_) (λhq=>?_)
  ·have hq:Dz 256=s:=hq;refine W ?_;refine Rt U U ?_;rw [xD hq];rfl
  ·have hq:¬ Dz 256=s:=hq;refine W ?_;exact⟨1,by omega,⟨by omega,λ_=>hq,by omega,by omega⟩,y9,trivial⟩
 ·refine W ?_;refine aI (d_ (len:=3) 1 cq U U U U U U U) ?_;refine W ?_;have h1:=h1 xE;refine Ci U (λhq=>?_) (λhq=>?_)
  ·have hq:Dz 384=s:=hq;refine W ?_;refine Rt U U ?_;rw [xC h1];rw [xD hq];rfl
  ·have hq:¬ Dz 384=s:=hq;refine W ?_;exact⟨2,by omega,⟨by omega,λ_=>h1,λ_=>hq,by omega⟩,y9,trivial⟩
 ·refine W ?_;refine aI (d_ (len:=3) 2 cq U U U U U U U) ?_;refine W ?_;have h1:=h1 xE;have h2:=h2 xE;refine Ci U (λhq=>?_) (λhq=>?_)
  ·have hq:Dz 512=s:=hq;refine W ?_;refine Rt U U ?_;rw [xC h1];rw [xC h2];rw [xD hq];rfl
  ·have hq:¬ Dz 512=s:=hq;refine W ?_;exact⟨3,by omega,⟨by omega,λ_=>h1,λ_=>h2,λ_=>hq⟩,y9,trivial⟩
 ·have h1:=h1 xE;have h2:=h2 xE;have h3:=h3 xE;refine W ?_;refine Rt U U ?_;rw [xC h1,xC h2,xC h3];rfl
instance:Cn prog 267 (type_of% @Q_):=⟨@Q_⟩
theorem nI (n:Nd) (hz:n.sz<=1073741824):yq prog 184 [.nd n] (.i (CX n)):=by
 have k0:=b_ n 0;unfold CX kd;exact an func184 U ntmps184 U (λe=>Z)
instance:Cn prog 184 (type_of% @nI):=⟨@nI⟩
theorem RP {k:Nd}(hz:k.sz<=8000) (h:(yU k).2=true):IP (yU k).1:=by
 unfold yU at h |-
 split at h
 ·rename_i hk;rw [xD hk];obtain⟨h1,h2,h3⟩:=j8 hk;rw [<- h3];have q0:(kd k 0).sz<=k.sz:=b_ k 0;have q1:(kd k 1).sz<=k.sz:=b_ k 1;have ol:=lE (kd k 0).bytes;have kb:=bc (kd k 0);have on:(Ay (fR k).zJ).sz<=200000:=by
   unfold yS at h2;rw [xD h1] at h2;have:(Ay (fR k).zJ).sz<=k.sz:=by
    have hh:=congrArg (λz=>kd z 0) h2;have hh:kd k 0=Ay (fR k).zJ:=hh.symm;rw [<- hh];exact q0
   omega
  refine⟨⟨?_,on⟩,?_,λv hv=>?_⟩
  ·show((AK (kd k 0).bytes).getD []).length<=_;omega
  ·show(((kd k 1).kids.take 10).map _).length<=_;rw [aq];have:=BA 10 (kd k 1).kids;omega
  ·obtain⟨x,hx,rfl⟩:=y'.1 hv;have h4:=sK x;have h5:=bX (List.mem_of_mem_take hx);have h6:Nd.yP (kd k 1).kids<=(kd k 1).sz:=by cases (kd k 1);simp only [Nd.kids,Nd.sz];omega
   omega
 ·cases h
theorem XR (n:Nd):Nd.yP n.kids<=n.sz:=by cases n;simp only [Nd.kids,Nd.sz];omega
theorem nG (ks:LN) (hz:Nd.yP ks<=100000000) (hn:ks.length<=400000) (P9:∀ k∈ks,IP (yU k).1):yq prog 185 [.AX ks] (.zZ [.sl 2 Fe.enc (za ks).1,.b (za ks).2]):=by
 have hlz:=bD ks;have bad:ks.all (λk=>(yU k).2)=false->za ks=([],false):=λhb=>by
  unfold za;rw [hb];rfl
 refine an func185 U ntmps185 U (λe=>?_);refine W ?_;refine Rn (kS 2 Fe.enc) 4 67 U U ?_;refine Lp (γ:=Nat) (λg=>g<=ks.length/\(ks.take g).all (λk=>(yU k).2)=true) (λg=>ks.length+1-g)
  (λg=>[(4,.row 0),(9,.d (.AX ks)),(10,.d (.i (ks.length:Int))),(11,.d (.i (g:Int)))])
  (λg=>[(0,.row 67 (.sl 2 Fe.enc ((ks.take g).map λk=>(yU k).1)))]) 0 ⟨by omega,U⟩ y9 y9 ?_
 rintro g ⟨hg,zX⟩;have FH:((ks.take g).map λk=>(yU k).1).length<=400000:=by rw [aq];have:=xY g ks;omega
 refine W ?_;refine Ci U (λh=>?_) (λh=>?_)
 ·have hl:g<ks.length:=by omega
  have yL:ks.getD g (.mk 0 0 false [] [])=ks[g]:=aU hl;have CP:=bX (ax hl);rw [<- yL] at CP;have hc:=kR (ks.getD g (.mk 0 0 false [] [])) xE;refine W ?_;refine Ci U (λh4=>?_) (λh4=>?_)
  ·refine W ?_;refine Rt U U ?_;rw [bad]
   ·rfl
   ·rw [yM];exact⟨ks[g],ax hl,by rw [<- yL,h4];simp⟩
  refine W ?_;refine aI (yi.OX (enc:=Fe.enc) [(yU (ks.getD g (.mk 0 0 false [] []))).1] U U U U (λ_ _=>rfl) U U U U U) ?_;refine W ?_;have e1:(ks.take (g+1)).map (λk=>(yU k).1)=(ks.take g).map (λk=>(yU k).1)++[(yU (ks.getD g (.mk 0 0 false [] []))).1]:=by
   exact m141
  have e2:(ks.take (g+1)).all (λk=>(yU k).2)=true:=by
   rw [ai hl,yr,zX,<- yL];simp only [ya,h4,zf];rfl
  exact m43
 ·have CK:g=ks.length:=by omega
  subst CK;rw [xK] at zX;rw [xK];have hrf:=dF (ks.map λk=>(yU k).1) (by rw [aq];omega) (λf hf=>by
   obtain⟨k,hk,rfl⟩:=y'.1 hf;exact P9 k hk)
  refine Pb 0 U ?_;refine W ?_;refine Rt U U ?_;unfold za;rw [xD zX];rfl
instance:Cn prog 185 (type_of% @nG):=⟨@nG⟩
abbrev z7:List D:=[.v (.slice none 0 0),.v (.slice none 0 0),.v (.slice none 0 0),.i 0,.v (.slice none 0 0),.v (.slice none 0 0),.v (.slice none 0 0)]
def Oe (v w:Nd):List D:=if zd w 0 false then(if v.AA&&decide (v.tag=2) then [.v (.slice none 0 0),.v (.slice none 0 0),.bs w.bytes,.i 0,.v (.slice none 0 0),.v (.slice none 0 0),.v (.slice none 0 0)] else z7)
 else(if v.AA&&decide (v.tag=2)&&(xR w 2 2&&decide ((kd w 1).tag=2)) then [.sl 3 At.enc (nameOf (kd w 0)).1,.ws (kd w 1).BE,.v (.slice none 0 0),.i 0,.v (.slice none 0 0),.v (.slice none 0 0),.v (.slice none 0 0)] else z7)
theorem a7L (v w:Nd) (hv:v.sz<=1000000) (hw:w.sz<=1000000):Jx prog 183 62 [] (.st z7) [.nd v,.nd w] (λd d1=>d=.b (Ga v w)/\d1=.st (Oe v w)):=by
 have hi:=@pB v xE;cases hc:zd w 0 false with
 |true =>
  have hx:yq prog 28 [.nd w,.i 0,.b false] (.b true):=(lT w 0 false).to (by rw [hc]);have hB:Ga v w=(v.AA&&decide (v.tag=2)&&decide (v.D7=3)):=by unfold Ga;rw [xD hc]
  have hD:Oe v w=(if v.AA&&decide (v.tag=2) then [.v (.slice none 0 0),.v (.slice none 0 0),.bs w.bytes,.i 0,.v (.slice none 0 0),.v (.slice none 0 0),.v (.slice none 0 0)] else z7):=by unfold Oe;rw [xD hc]
  rw [hB,hD];have kb:=bc w;refine Jx.intro func183 U ntmps183 U (λe b=>?_);refine W ?_;refine Bg U U (λh1=>?_) (λh1=>?_)
  ·have E_:v.AA=false:=by simpa using h1
   rw [E_];exact m38
  have E_:v.AA=true:=by simpa using h1
  rw [E_];refine W ?_;refine Ci U (λh2=>?_) (λh2=>?_)
  ·rw [ah (show ¬ v.tag=2 from h2)];exact m38
  have ME:v.tag=2:=by simpa using h2
  rw [ae ME];exact m38
 |false =>
  have hx:yq prog 28 [.nd w,.i 0,.b false] (.b false):=(lT w 0 false).to (by rw [hc]);have hn:¬ zd w 0 false=true:=by rw [hc];simp
  have hB:Ga v w=(v.AA&&decide (v.tag=2)&&(xR w 2 2&&decide ((kd w 1).tag=2)&&(nameOf (kd w 0)).2&&(kd w 1).Cu&&decide (v.D7=1))):=by unfold Ga;rw [xC hn]
  have hD:Oe v w=(if v.AA&&decide (v.tag=2)&&(xR w 2 2&&decide ((kd w 1).tag=2)) then [.sl 3 At.enc (nameOf (kd w 0)).1,.ws (kd w 1).BE,.v (.slice none 0 0),.i 0,.v (.slice none 0 0),.v (.slice none 0 0),.v (.slice none 0 0)] else z7):=by unfold Oe;rw [xC hn]
  rw [hB,hD];have q0:=b_ w 0;have q1:=b_ w 1;have c1:=p_ (kd w 0) (by unfold kd;omega);have c2:=mF (kd w 1) (by unfold kd;omega);unfold kd at c1 c2 |-
  refine Jx.intro func183 U ntmps183 U (λe b=>?_);refine W ?_;refine Bg U U (λh1=>?_) (λh1=>?_)
  ·have E_:v.AA=false:=by simpa using h1
   rw [E_];exact m38
  have E_:v.AA=true:=by simpa using h1
  rw [E_];refine W ?_;refine Ci U (λh2=>?_) (λh2=>?_)
  ·rw [ah (show ¬ v.tag=2 from h2)];exact m38
  have ME:v.tag=2:=by simpa using h2
  rw [ae ME];refine W ?_;refine Bg U U (λh3=>?_) (λh3=>?_)
  ·have NF:xR w 2 2=false:=by simp_all
   rw [NF];exact m38
  have NF:xR w 2 2=true:=by simp_all
  rw [NF];refine W ?_;refine Ci U (λh4=>?_) (λh4=>?_)
  ·rw [ah (show ¬ (w.kids.getD 1 (.mk 0 0 false [] [])).tag=2 from h4)];exact m38
  have Is:(w.kids.getD 1 (.mk 0 0 false [] [])).tag=2:=by simpa using h4
  rw [ae Is];refine W ?_;refine Bg U U (λh5=>?_) (λh5=>?_)
  ·rw [h5];refine W ?_;refine Bg U U (λh6=>?_) (λh6=>?_)
   ·rw [h6];exact m38
   ·rw [h6];exact m38
  ·rw [h5];exact m38
structure SgW (s:Sg):Prop where
 isu:s.yg.length<=1000000
 Mb:∀ a∈s.yg,a.zJ.length<=1000000/\a.text.length<=1000000
 ser:s.xU.length<=4096
 sgd:s.signed.length<=400000
 a4Z:∀ f∈s.signed,IP f
 uns:s.yc.length<=400000
 a4B:∀ f∈s.yc,IP f
theorem kQ (s:Sg) (h:SgW s):yq prog 68 [.st s.enc] (.b (z_ s)):=by
 obtain⟨b1,b2,b3,b4,b5,b6,b7⟩:=h;have c1:=iM s.yg b1 b2;have c2:=dF s.signed b4 b5;have c3:=dF s.yc b6 b7;unfold z_ Ez Gy;exact an func68 U ntmps68 U (λe=>Z)
theorem wK (s:Sg) (h:SgW s):yq prog 209 [.st s.enc] (.b (z_ s)):=by
 obtain⟨b1,b2,b3,b4,b5,b6,b7⟩:=h;have c0:=gX s.xU xE;have c1:=fM s.yg b1 b2;have c2:=eI s.signed b4 b5;rw [Qq b5] at c2;have c3:=eI s.yc b6 b7;rw [Qq b7] at c3;unfold z_ Ez Gy;exact an func209 U ntmps209 U (λe=>Z)
theorem fL {α:Type}(f:α->Nd) (B:Nat):∀ (l:List α),(∀ x∈l,(f x).sz<=B)->Nd.yP (l.map f)<=l.length*B
 |[],_=>by simp [Nd.yP]
 |x::r,h=>by
  have h1:=h x (aC ..);have h2:=fL f B r (λy hy=>h y (aE _ hy));simp only [yy,Nd.yP,aw,D'];omega
theorem lI {l:List At}(hB:∀ a∈l,a.zJ.length<=1000000/\a.text.length<=1000000):(AO l).sz<=300000000:=by
 rw [i9];unfold ED;split
 ·rename_i h;unfold C9 at h;rw [xB,a_] at h;have h1:=fL Jc 12000100 l (λa ha=>by
   have h2:=PI a;obtain⟨b1,b2⟩:=hB a ha;simp only [Jc,Nd.sz,Nd.yP,ay];omega)
  have h3:l.length*12000100<=16*12000100:=aT _ xE;simp only [Nd.sz,ay];omega
 ·simp [DU,Nd.sz,Nd.yP]
theorem kD (l:List UInt32) (h:l.length<=4096):(Bt l).sz<=20000:=by
 have h1:=(cU l).2.2;have h2:=a7h l;omega
theorem tB (h:Int):(Dl h).sz<=1000:=by
 have h1:=oV h;have h2:=dD (Dz h);simp only [Dl,Nd.sz,Nd.yP,ay];omega
theorem RN (h:l.length<=16) (hB:∀ f∈l,IP f):Nd.yP (l.map yS)<=17600000:=by
 have h1:=fL yS 1100000 l (λf hf=>jz (hB f hf));have h2:l.length*1100000<=16*1100000:=aT _ h;omega
theorem f9 (s:Sg) (hw:SgW s):yq prog 123 [.st s.enc] (.zZ [.nd (BW s),.i (Wj s)]):=by
 have Rk:=kQ s hw;cases hr:z_ s with
 |false =>
  rw [hr] at Rk;refine an func123 U ntmps123 U (λe=>?_);refine W ?_;refine Rt U U ?_;simp only [yR,BW,Wj,hr];rfl
 |true =>
  rw [hr] at Rk;obtain⟨b1,b2,b3,b4,b5,b6,b7⟩:=hw;have hrr:=hr;simp only [z_,xB,a_] at hrr;obtain⟨⟨⟨⟨⟨r1,r2⟩,r3⟩,r4⟩,r5⟩,r6⟩:=hrr;have bk:s.Ec.length<=64:=by
   unfold Ez at r1;split at r1
   ·simp only [xB,yN,xL] at r1;omega
   ·omega
  have g1:=lI b2;have g2:=kD s.xU b3;have g3:=tB s.hash;have g4:=RN (k_ r3) b5;have g5:=RN (k_ r4) b7;have c1:=iM s.yg b1 b2;have c2:=gD s.xU b3;have c3:=vT [AO s.yg,Bt s.xU] (by simp only [Nd.yP];omega);have c4:=f_ s.signed b4 b5;have c5:=@jG 2 0 (s.signed.map yS) xE;have c6:=f_ s.yc b6 b7;have c7:=@jG 2 1 (s.yc.map yS) xE;have i3:(B2 3).length<=8:=(cK 3 yD yD).2.2.1;have i1:(B2 1).length<=8:=(cK 1 yD yD).2.2.1;have res:∀ L,FL s=L->yR [.nd (.mk 0 16 true [] L),.i 0]=.zZ [.nd (BW s),.i (Wj s)]:=λL hL=>by
   simp only [yR,BW,Wj,hr,if_true,hL]
  have u0:∀ {l:List Fe},¬ 0<(l.length:Int)->l=[]:=λh=>xI xE;refine an func123 U ntmps123 U (λe=>?_);refine W ?_;refine Ci U (λh2=>?_) (λh2=>?_)
  ·have h2:¬ 0<(s.Ec.length:Int):=by omega
   refine W ?_;refine Xco (K:=kN) U U (vS [.mk 0 2 false (B2 1) [],(.mk 0 16 true [] [AO s.yg,Bt s.xU]),Dl s.hash] (by simp only [Nd.yP,Nd.sz,ay];omega)) U ?_;refine HA U U ?_;refine bI U ?_;refine W ?_;refine Ci U (λh3=>?_) (λh3=>?_)
   ·refine W ?_;refine Kz kN U U U U U U U (by simp) U U U ?_;refine HA U U ?_;refine bI U ?_;refine Kj 4 U U U U U ?_;refine W ?_;refine Kz kN U U U U U U U (by simp) U U U ?_;refine HA U U ?_;refine bI U ?_;refine Kj 4 U U U U U ?_;refine W ?_;refine Ci U (λh4=>?_) (λh4=>?_)
    ·refine W ?_;refine Kz kN U U U U U U U (by simp) U U U ?_;refine HA U U ?_;refine bI U ?_;refine Kj 4 U U U U U ?_;refine W ?_;refine Pl 4 U ?_;refine W ?_;refine Rt U U (res _ ?_);unfold FL BJ DH;rw [xC (show ¬ 0<(s.Ec.length:Int) by omega),xC (show ¬ 0<(s.Ec.length:Int) by omega)];exact m173
    ·refine W ?_;refine Pl 4 U ?_;refine W ?_;refine Rt U U (res _ ?_);unfold FL BJ DH;rw [xC (show ¬ 0<(s.Ec.length:Int) by omega),xC (show ¬ 0<(s.Ec.length:Int) by omega)];exact m187
   ·refine W ?_;refine Kz kN U U U U U U U (by simp) U U U ?_;refine HA U U ?_;refine bI U ?_;refine Kj 4 U U U U U ?_;refine W ?_;refine Ci U (λh4=>?_) (λh4=>?_)
    ·refine W ?_;refine Kz kN U U U U U U U (by simp) U U U ?_;refine HA U U ?_;refine bI U ?_;refine Kj 4 U U U U U ?_;refine W ?_;refine Pl 4 U ?_;refine W ?_;refine Rt U U (res _ ?_);unfold FL BJ DH;rw [xC (show ¬ 0<(s.Ec.length:Int) by omega),xC (show ¬ 0<(s.Ec.length:Int) by omega)];exact m186
    ·refine W ?_;refine Pl 4 U ?_;refine W ?_;refine Rt U U (res _ ?_);unfold FL BJ DH;rw [xC (show ¬ 0<(s.Ec.length:Int) by omega),xC (show ¬ 0<(s.Ec.length:Int) by omega)];rw [u0 h3,c_,u0 h4,c_];rfl
  ·have h2:0<(s.Ec.length:Int):=by omega
   refine W ?_;refine Xco (K:=kN) U U (vS [.mk 0 2 false (B2 3) [],(.mk 2 0 false s.Ec []),Dl s.hash] (by simp only [Nd.yP,Nd.sz,ay];omega)) U ?_;refine HA U U ?_;refine bI U ?_;refine W ?_;refine Ci U (λh3=>?_) (λh3=>?_)
   ·refine W ?_;refine Kz kN U U U U U U U (by simp) U U U ?_;refine HA U U ?_;refine bI U ?_;refine Kj 3 U U U U U ?_;refine W ?_;refine Kz kN U U U U U U U (by simp) U U U ?_;refine HA U U ?_;refine bI U ?_;refine Kj 3 U U U U U ?_;refine W ?_;refine Ci U (λh4=>?_) (λh4=>?_)
    ·refine W ?_;refine Kz kN U U U U U U U (by simp) U U U ?_;refine HA U U ?_;refine bI U ?_;refine Kj 3 U U U U U ?_;refine W ?_;refine Pl 3 U ?_;refine W ?_;refine Rt U U (res _ ?_);unfold FL BJ DH;rw [xD (show 0<(s.Ec.length:Int) by omega),xD (show 0<(s.Ec.length:Int) by omega)];exact m173
    ·refine W ?_;refine Pl 3 U ?_;refine W ?_;refine Rt U U (res _ ?_);unfold FL BJ DH;rw [xD (show 0<(s.Ec.length:Int) by omega),xD (show 0<(s.Ec.length:Int) by omega)];exact m187
   ·refine W ?_;refine Kz kN U U U U U U U (by simp) U U U ?_;refine HA U U ?_;refine bI U ?_;refine Kj 3 U U U U U ?_;refine W ?_;refine Ci U (λh4=>?_) (λh4=>?_)
    ·refine W ?_;refine Kz kN U U U U U U U (by simp) U U U ?_;refine HA U U ?_;refine bI U ?_;refine Kj 3 U U U U U ?_;refine W ?_;refine Pl 3 U ?_;refine W ?_;refine Rt U U (res _ ?_);unfold FL BJ DH;rw [xD (show 0<(s.Ec.length:Int) by omega),xD (show 0<(s.Ec.length:Int) by omega)];exact m186
    ·refine W ?_;refine Pl 3 U ?_;refine W ?_;refine Rt U U (res _ ?_);unfold FL BJ DH;rw [xD (show 0<(s.Ec.length:Int) by omega),xD (show 0<(s.Ec.length:Int) by omega)];rw [u0 h3,c_,u0 h4,c_];rfl
instance:Cn prog 123 (type_of% @f9):=⟨@f9⟩
def N_ (m:Int):List At->Int->Int
 |[],n=>n
 |a::r,n=>if n<=m then N_ m r (n+1+a.zJ.length+a.text.length) else n
theorem XL (m n:Int) (h:m<n):∀ l,N_ m l n=n
 |[]=>rfl
 |_::_=>xC xE
def AtB (a:At):Prop:=a.zJ.length<=140737488355328/\a.text.length<=140737488355328
theorem fg (l:List At) (m:Int) (h0:0<=m) (h1:m<=1000000000000) (hl:l.length<=140737488355328) (hB:∀ a∈l,AtB a):yq prog 115 [.sl 3 At.enc l,.i m] (.i (N_ m l 0)):=by
 refine an func115 U ntmps115 U (λe=>?_);refine W ?_;refine Lp (γ:=Nat×Int) (λg=>g.1<=l.length/\0<=g.2/\g.2<=m+1+281474976710656/\N_ m l 0=N_ m (l.drop g.1) g.2) (λg=>l.length+1-g.1) (λg=>[(0,.d (.sl 3 At.enc l)),(1,.d (.i m)),(5,.d (.i g.2)),(6,.d (.i (g.1:Int)))]) (λ_=>[]) (0,0) ⟨by simp,by simp,by simp only;omega,U⟩ y9 trivial ?_;rintro⟨g,n⟩ ⟨i0,i1,i2,i3⟩;dsimp only at i0 i1 i2 i3;show JD _ _ _ _ _ [(0,.d (.sl 3 At.enc l)),(1,.d (.i m)),(5,.d (.i n)),(6,.d (.i (g:Int)))] [];have fin:m<n\/g=l.length->yR [.i n]=.i (N_ m l 0):=λh=>by
  rw [i3];rcases h with h|h
  ·rw [XL m n h];rfl
  ·rw [h,IN];rfl
 refine W ?_;refine Bg U U (λh=>?_) (λh=>?_)
 ·have yJ:g<l.length:=by omega
  obtain⟨b1,b2⟩:=hB _ (ax yJ);rw [<- aU (z:=default) yJ] at b1 b2;have U5:l.drop g=l.getD g default::l.drop (g+1):=by rw [aL yJ,aU yJ]
  refine W ?_;refine Ci U (λh2=>?_) (λh2=>?_)
  ·rw [U5] at i3;simp only [N_,xD h2] at i3;refine W ?_;exact⟨(g+1,n+1+(l.getD g default).zJ.length+(l.getD g default).text.length),by simp only;omega,⟨by simp only;omega,by simp only;omega,by simp only;omega,i3⟩,y9,trivial⟩
  ·exact m88
 ·exact m87
instance:Cn prog 115 (type_of% @fg):=⟨@fg⟩
theorem qZ (m:Int):∀ (l:List At) (n:Int),(∀ a∈l,AtB a)->0<=n->n<=m+1+281474976710656->0<=N_ m l n/\N_ m l n<=m+1+281474976710656
 |[],n,_,h0,h1=>⟨h0,h1⟩
 |a::r,n,hB,h0,h1=>by
  obtain⟨b1,b2⟩:=hB a (aC ..);simp only [N_];split
  ·exact qZ m r _ (λz hz=>hB z (aE _ hz)) xE xE
  ·exact⟨h0,h1⟩
theorem YZ (m:Int):∀ (l:List yG) (n:Int),(∀ v∈l,v.length<=140737488355328)->0<=n->n<=m+1+140737488355328->0<=Pm m l n/\Pm m l n<=m+1+140737488355328
 |[],n,_,h0,h1=>⟨h0,h1⟩
 |a::r,n,hB,h0,h1=>by
  have b1:=hB a (aC ..);simp only [Pm];split
  ·exact YZ m r _ (λz hz=>hB z (aE _ hz)) xE xE
  ·exact⟨h0,h1⟩
theorem Po (m:Int):∀ (l:List Fe) (n:Int),(∀ f∈l,FeB f)->0<=n->n<=m+1+140737488355328->0<=O7 m l n/\O7 m l n<=m+1+140737488355328
 |[],n,_,h0,h1=>⟨h0,h1⟩
 |a::r,n,hB,h0,h1=>by
  obtain⟨b1,_,b3⟩:=hB a (aC ..);simp only [O7];split
  ·obtain⟨q1,q2⟩:=YZ m a.yB (n+1+a.zJ.length) b3 xE xE;exact Po m r _ (λz hz=>hB z (aE _ hz)) q1 q2
  ·exact⟨h0,h1⟩
structure a9H (s:Sg):Prop where
 isu:s.yg.length<=140737488355328
 Mb:∀ a∈s.yg,AtB a
 ser:s.xU.length<=140737488355328
 Ec:s.Ec.length<=140737488355328
 sgd:s.signed.length<=140737488355328
 a4Z:∀ f∈s.signed,FeB f
 sig:s.sig.length<=140737488355328
 uns:s.yc.length<=140737488355328
 a4B:∀ f∈s.yc,FeB f
theorem vv:yq prog 47 [.sl 11 BU.enc []] (.b false):=by
 refine an func47 U ntmps47 U (λe=>?_);refine W ?_;refine Lp (γ:=Unit) (λ_=>True) (λ_=>0) (λ_=>[(0,.d (.sl 11 BU.enc [])),(3,.d (.i 0))]) (λ_=>[]) () trivial y9 trivial ?_;rintro _ _;exact m10
instance:Cn prog 47 (type_of% @vv):=⟨@vv⟩
theorem Z7 (h:fW l<=12000):l.length<=12000/\∀ f∈l,IP f:=by
 have h2:=a41 l;refine⟨by omega,λf hf=>?_⟩;have h3:=h2.2 f hf;have h4:=a3r f.yB;have h5:=dD f.zJ;exact⟨⟨by omega,by omega⟩,by omega,λv hv=>by have:=h4.2 v hv;omega⟩
def wS {α:Type}(f:α->Nat):List α->Nat
 |[]=>0
 |x::r=>f x+wS f r
theorem VF {α:Type}(f:α->Nat):∀ l r:List α,wS f (l++r)=wS f l+wS f r
 |[],r=>by simp [wS]
 |x::l,r=>by have:=VF f l r;simp only [xX,wS];omega
theorem m5 {α:Type} [Inhabited α] (f:α->Nat) {l:List α}{g:Nat}(h:g<l.length):wS f (l.take (g+1))=wS f (l.take g)+f (l.getD g default):=by
 rw [ai h,VF,aU h];simp [wS]
theorem gK {α:Type}(f:α->Nat) {x:α}:∀ {l:List α},x∈l->f x<=wS f l
 |y::r,h=>by
  cases h with
  |head=>simp only [wS];omega
  |tail _ h=>have:=gK f h;simp only [wS];omega
theorem f6 {α:Type}(f:α->Nat) (h:∀ x,1<=f x):∀ l:List α,l.length<=wS f l
 |[]=>aB _
 |x::r=>by have:=f6 f h r;have:=h x;simp only [wS,aw];omega
def Iz (a:At):Nat:=1+a.zJ.length+a.text.length
def KA (x:Xt):Nat:=1+x.zJ.length+x.val.length
def KT (g:Gn):Nat:=1+4*g.xU.length
def DV (c:BU):Nat:=c.sig.length+4*c.xU.length+4*c.key.n.length+4*c.key.e.length+4*c.key.d.length+wS Iz c.yg+wS Iz c.AR+wS KA c.exts
def IZ (l:Cl):Nat:=l.sig.length+wS Iz l.yg+wS KT l.gone
theorem qY (m:Int):∀ (l:List At) (n:Int),N_ m l n<=m->N_ m l n=n+wS Iz l
 |[],n,_=>by simp [N_,wS]
 |v::r,n,h=>by
  simp only [N_] at h |-
  split at h
  ·rename_i hn;rw [xD hn,qY m r _ h];simp only [wS,Iz];omega
  ·omega
structure XtD (x:Xt):Prop where
 o:x.zJ.length<=140737488355328
 v:x.val.length<=140737488355328
structure CrD (c:BU):Prop where
 ser:c.xU.length<=140737488355328
 isu:c.yg.length<=140737488355328
 Mb:∀ a∈c.yg,AtB a
 sub:c.AR.length<=140737488355328
 T6:∀ a∈c.AR,AtB a
 kn:c.key.n.length<=140737488355328
 ke:c.key.e.length<=140737488355328
 kd:c.key.d.length<=140737488355328
 ex:c.exts.length<=140737488355328
 exB:∀ x∈c.exts,XtD x
 sg:c.sig.length<=140737488355328
structure ClD (l:Cl):Prop where
 isu:l.yg.length<=140737488355328
 Mb:∀ a∈l.yg,AtB a
 gone:l.gone.length<=140737488355328
 EE:∀ g∈l.gone,g.xU.length<=140737488355328
 sg:l.sig.length<=140737488355328
def IsW (m:Int) (w:Nat) (d:D):Prop:=∃ n:Int,d=.i n/\0<=n/\n<=m+10000000000000000/\(n<=m->n=w)
theorem a2Y (c:BU) (m:Int) (h0:0<=m) (h1:m<=1000000) (h:CrD c):Mt prog 215 [.st c.enc,.i m] (IsW m (DV c)):=by
 obtain⟨b1,b2,b3,b4,b5,b6,b7,b8,b9,b10,b11⟩:=h;have c1:=fg c.yg m h0 xE b2 b3;have c2:=fg c.AR m h0 xE b4 b5;obtain⟨p1,p2⟩:=qZ m c.yg 0 b3 xE xE;obtain⟨p3,p4⟩:=qZ m c.AR 0 b5 xE xE;have q1:=qY m c.yg 0;have q2:=qY m c.AR 0;generalize N_ m c.yg 0=N1 at *;generalize N_ m c.AR 0=N2 at *;refine an func215 U ntmps215 U (λe=>?_);refine W ?_;refine aI (yi.mul U U xE U U) ?_;refine W ?_;refine aI (yi.mul U U xE U U) ?_;refine W ?_;refine aI (yi.mul U U xE U U) ?_;refine W ?_;refine aI (yi.mul U U xE U U) ?_;refine W ?_;have hw:(DV c:Int)=(c.sig.length:Int)+4*(c.xU.length:Int)+4*(c.key.n.length:Int)+4*(c.key.e.length:Int)+4*(c.key.d.length:Int)+wS Iz c.yg+wS Iz c.AR+wS KA c.exts:=by unfold DV;omega
 have GF:0<=(c.sig.length:Int)+4*(c.xU.length:Int)+4*(c.key.n.length:Int)+4*(c.key.e.length:Int)+4*(c.key.d.length:Int)/\(c.sig.length:Int)+4*(c.xU.length:Int)+4*(c.key.n.length:Int)+4*(c.key.e.length:Int)+4*(c.key.d.length:Int)<=3000000000000000:=by omega
 generalize (c.sig.length:Int)+4*(c.xU.length:Int)+4*(c.key.n.length:Int)+4*(c.key.e.length:Int)+4*(c.key.d.length:Int)=n0 at *;refine Ci U (λh1=>?_) (λh1=>?_)
 ·refine W ?_;exact Rt U U ⟨_,U,by omega,by omega,by omega⟩
 refine W ?_;refine Ci U (λh2=>?_) (λh2=>?_)
 ·refine W ?_;exact Rt U U ⟨_,U,by omega,by omega,by omega⟩
 refine W ?_;refine Lp (γ:=Nat×Int) (λg=>g.1<=c.exts.length/\0<=g.2/\g.2<=m+5000000000000000/\g.2=n0+N1+N2+wS KA (c.exts.take g.1)) (λg=>c.exts.length+1-g.1)
  (λg=>[(1,.d (.i m)),(2,.own 0 0),(5,.d (.i g.2)),(6,.d (.i (g.1:Int)))]) (λ_=>[(0,.B1 55 (.st c.enc))]) (0,n0+N1+N2) ⟨by simp,by simp only;omega,by simp only;omega,by simp [wS]⟩ y9 y9 ?_
 rintro⟨g,n⟩ ⟨i0,i1,i2,i3⟩;dsimp only at i0 i1 i2 i3;show JD _ _ _ _ _ [(1,.d (.i m)),(2,.own 0 0),(5,.d (.i n)),(6,.d (.i (g:Int)))] [(0,.B1 55 (.st c.enc))];have fin:g=c.exts.length\/m<n->IsW m (DV c) (yR [.i n]):=λhh=>⟨n,U,i1,by omega,λhn=>by
  rcases hh with hh|hh
  ·rw [hh,xK] at i3;omega
  ·omega⟩
 refine W ?_;refine Bg U U (λh3=>?_) (λh3=>?_)
 ·have yJ:g<c.exts.length:=by omega
  have yL:c.exts.getD g default=c.exts[g]:=aU yJ;obtain⟨x1,x2⟩:=b10 _ (ax yJ);rw [<- yL] at x1 x2;refine W ?_;refine Ci U (λh4=>?_) (λh4=>?_)
  ·have ht:=m5 KA yJ;unfold KA at ht;refine W ?_;exact⟨(g+1,_),by simp only;omega,⟨by simp only;omega,by simp only;omega,by simp only;omega,by simp only;unfold KA at i3 |-;omega⟩,⟨U,U,U,U,trivial⟩,⟨U,trivial⟩⟩
  ·exact m87
 ·exact m88
theorem ZH (l:Cl) (m:Int) (h0:0<=m) (h1:m<=1000000) (h:ClD l):Mt prog 216 [.st l.enc,.i m] (IsW m (IZ l)):=by
 obtain⟨b1,b2,b3,b4,b5⟩:=h;have c1:=fg l.yg m h0 xE b1 b2;obtain⟨p1,p2⟩:=qZ m l.yg 0 b2 xE xE;have q1:=qY m l.yg 0;have hw:(IZ l:Int)=(l.sig.length:Int)+wS Iz l.yg+wS KT l.gone:=by unfold IZ;omega
 refine an func216 U ntmps216 U (λe=>?_);refine W ?_;generalize N_ m l.yg 0=N1 at *;refine Lp (γ:=Nat×Int) (λg=>g.1<=l.gone.length/\0<=g.2/\g.2<=m+5000000000000000/\g.2=(l.sig.length:Int)+N1+wS KT (l.gone.take g.1)) (λg=>l.gone.length+1-g.1)
  (λg=>[(1,.d (.i m)),(2,.own 0 0),(5,.d (.i g.2)),(6,.d (.i (g.1:Int)))]) (λ_=>[(0,.B1 59 (.st l.enc))]) (0,(l.sig.length:Int)+N1) ⟨by simp,by simp only;omega,by simp only;omega,by simp [wS]⟩ y9 y9 ?_
 rintro⟨g,n⟩ ⟨i0,i1,i2,i3⟩;dsimp only at i0 i1 i2 i3;show JD _ _ _ _ _ [(1,.d (.i m)),(2,.own 0 0),(5,.d (.i n)),(6,.d (.i (g:Int)))] [(0,.B1 59 (.st l.enc))];have fin:g=l.gone.length\/m<n->IsW m (IZ l) (yR [.i n]):=λhh=>⟨n,U,i1,by omega,λhn=>by
  rcases hh with hh|hh
  ·rw [hh,xK] at i3;omega
  ·omega⟩
 refine W ?_;refine Bg U U (λh3=>?_) (λh3=>?_)
 ·have yJ:g<l.gone.length:=by omega
  have yL:l.gone.getD g default=l.gone[g]:=aU yJ;have x1:=b4 _ (ax yJ);rw [<- yL] at x1;refine W ?_;refine Ci U (λh4=>?_) (λh4=>?_)
  ·have ht:=m5 KT yJ;unfold KT at ht;refine W ?_;refine aI (yi.mul U U xE U U) ?_;refine W ?_;exact⟨(g+1,_),by simp only;omega,⟨by simp only;omega,by simp only;omega,by simp only;omega,by simp only;unfold KT at i3 |-;omega⟩,⟨U,U,U,U,trivial⟩,⟨U,trivial⟩⟩
  ·exact m87
 ·exact m88
def Fx (c:BU):Nat:=1+DV c
def Kc (l:Cl):Nat:=1+IZ l
def a9N (m:Int) (w:Nat) (d:D):Prop:=∃ n:Int,d=.i n/\0<=n/\n<=m+30000000000000000/\(n<=m->n=w)
theorem a0T (cs:List BU) (ls:List Cl) (m:Int) (h0:0<=m) (h1:m<=1000000) (hc:cs.length<=140737488355328) (hcB:∀ c∈cs,CrD c) (hl:ls.length<=140737488355328) (hlB:∀ l∈ls,ClD l) :
 Mt prog 114 [.sl 11 BU.enc cs,.sl 6 Cl.enc ls,.i m] (a9N m (wS Fx cs+wS Kc ls)):=by
 refine an func114 U ntmps114 U (λe=>?_);refine W ?_;refine Lp (γ:=Nat×Int) (λg=>g.1<=cs.length/\0<=g.2/\g.2<=m+1+m+10000000000000000/\(g.2<=m->g.2=wS Fx (cs.take g.1))) (λg=>cs.length+1-g.1)
  (λg=>[(0,.d (.sl 11 BU.enc cs)),(1,.d (.sl 6 Cl.enc ls)),(2,.d (.i m)),(7,.d (.i g.2)),(8,.d (.i (g.1:Int)))]) (λ_=>[]) (0,0) ⟨by simp,by simp,by simp only;omega,by simp [wS]⟩ y9 trivial ?_
 rintro⟨g,n⟩ ⟨i0,i1,i2,i3⟩;dsimp only at i0 i1 i2 i3;show JD _ _ _ _ _ [(0,.d (.sl 11 BU.enc cs)),(1,.d (.sl 6 Cl.enc ls)),(2,.d (.i m)),(7,.d (.i n)),(8,.d (.i (g:Int)))] []
 repeat (refine JD.seq ?_)
 refine Jm (γ:=Bool) (λb=>[(0,.d (.sl 11 BU.enc cs)),(1,.d (.sl 6 Cl.enc ls)),(2,.d (.i m)),(7,.d (.i n)),(8,.d (.i (g:Int))),(18,.d (.bq b))]) (λ_=>[]) (λb=>b=(decide ((g:Int)<cs.length)&&decide (n<=m))) ?_ ?_
 ·refine W ?_;refine Bg U U (λh3=>?_) (λh3=>?_)
  ·refine W ?_;exact⟨decide (n<=m),by rw [ae h3];rfl,⟨⟨_,U,az⟩,⟨_,U,az⟩,⟨_,U,az⟩,⟨_,U,az⟩,⟨_,U,az⟩,⟨_,U,az⟩,trivial⟩,trivial⟩
  ·refine W ?_;exact⟨false,by rw [ah h3];rfl,⟨⟨_,U,az⟩,⟨_,U,az⟩,⟨_,U,az⟩,⟨_,U,az⟩,⟨_,U,az⟩,⟨_,U,dL⟩,trivial⟩,trivial⟩
 rintro b hb;refine Ci U (λh3=>?_) (λh3=>?_)
 ·rw [h3] at hb;simp only [Bool.true_eq,xB,a_] at hb;have yJ:g<cs.length:=by omega
  have yL:cs.getD g default=cs[g]:=aU yJ;have x1:=hcB _ (ax yJ);rw [<- yL] at x1;have ht:=m5 Fx yJ;refine W ?_;refine Ce U U (a2Y (cs.getD g default) m h0 h1 x1) (λd' hd=>?_);obtain⟨n1,rfl,p1,p2,p3⟩:=hd;refine W ?_;exact⟨(g+1,n+1+n1),by simp only;omega,⟨by simp only;omega,by simp only;omega,by simp only;omega,by simp only;intro hm;have q1:=i3 hb.2;have q2:=p3 xE;unfold Fx at ht q1 |-;omega⟩,y9,trivial⟩
 rw [h3] at hb;have hx:n<=m->n=wS Fx cs:=λhm=>by
  have CK:cs.take g=cs:=aD (by
   rw [ae hm,yO] at hb;have:=zz hb.symm;omega)
  rw [i3 hm,CK]
 clear hb i3 h3;refine W ?_;refine Lp (γ:=Nat×Int) (λg=>g.1<=ls.length/\0<=g.2/\g.2<=m+1+m+10000000000000000/\(g.2<=m->g.2=wS Fx cs+wS Kc (ls.take g.1))) (λg=>ls.length+1-g.1)
  (λg=>[(1,.d (.sl 6 Cl.enc ls)),(2,.d (.i m)),(7,.d (.i g.2)),(9,.d (.i (g.1:Int)))]) (λ_=>[]) (0,n) ⟨by simp,i1,i2,λhm=>by rw [hx hm];simp [wS]⟩ y9 trivial ?_
 clear hx i0 i1 i2;rintro⟨g,n⟩ ⟨i0,i1,i2,i3⟩;dsimp only at i0 i1 i2 i3;show JD _ _ _ _ _ [(1,.d (.sl 6 Cl.enc ls)),(2,.d (.i m)),(7,.d (.i n)),(9,.d (.i (g:Int)))] [];have fin:g=ls.length\/m<n->a9N m (wS Fx cs+wS Kc ls) (yR [.i n]):=λhh=>⟨n,U,i1,by omega,λhn=>by
  rcases hh with hh|hh
  ·rw [i3 hn,hh,xK];omega
  ·omega⟩
 refine W ?_;refine Bg U U (λh3=>?_) (λh3=>?_)
 ·have yJ:g<ls.length:=by omega
  have yL:ls.getD g default=ls[g]:=aU yJ;have x1:=hlB _ (ax yJ);rw [<- yL] at x1;have ht:=m5 Kc yJ;refine W ?_;refine Ci U (λh4=>?_) (λh4=>?_)
  ·refine W ?_;refine Ce U U (ZH (ls.getD g default) m h0 h1 x1) (λd' hd=>?_);obtain⟨n1,rfl,p1,p2,p3⟩:=hd;refine W ?_;exact⟨(g+1,n+1+n1),by simp only;omega,⟨by simp only;omega,by simp only;omega,by simp only;omega,by simp only;intro hm;have q1:=i3 h4;have q2:=p3 xE;unfold Kc at ht q1 |-;omega⟩,y9,trivial⟩
  ·exact m87
 ·exact m88
def NQ (cs:List BU):Bool:=decide (∃ i,i<cs.length/\26<(cs.getD i default).key.n.length)
theorem a2D (cs:List BU) (hl:cs.length<=140737488355328):yq prog 47 [.sl 11 BU.enc cs] (.b (NQ cs)):=by
 refine an func47 U ntmps47 U (λe=>?_);refine W ?_;refine Lp (γ:=Nat) (λg=>g<=cs.length/\∀ j,j<g->¬ 26<(cs.getD j default).key.n.length) (λg=>cs.length+1-g) (λg=>[(0,.d (.sl 11 BU.enc cs)),(3,.d (.i (g:Int)))]) (λ_=>[]) 0 ⟨by omega,λj hj=>by omega⟩ y9 trivial ?_;rintro g ⟨hg,zX⟩;refine W ?_;refine Ci U (λh3=>?_) (λh3=>?_)
 ·refine W ?_;refine Ci U (λh4=>?_) (λh4=>?_)
  ·refine W ?_;refine Rt U U ?_;rw [show NQ cs=true from ae ⟨g,by omega,by omega⟩];rfl
  ·refine W ?_;refine⟨g+1,by omega,⟨by omega,λj hj=>?_⟩,y9,trivial⟩;by_cases P7:j=g
   ·subst P7;omega
   ·exact zX j xE
 ·refine W ?_;refine Rt U U ?_;rw [show NQ cs=false from ah λ⟨i,h1,h2⟩=>zX i xE h2];rfl
def MV (s:Sg):Nat:=1+s.Ec.length+s.sig.length+4*s.xU.length+wS Iz s.yg+fW s.signed+fW s.yc
def sdW (s:Sd):Nat:=s.type.length+s.content.length+(wS Fx s.yj+wS Kc s.crls)+wS MV s.signers
structure SdD (s:Sd):Prop where
 ty:s.type.length<=140737488355328
 ct:s.content.length<=140737488355328
 cs:s.yj.length<=140737488355328
 csB:∀ c∈s.yj,CrD c
 ls:s.crls.length<=140737488355328
 lsB:∀ l∈s.crls,ClD l
 sg:s.signers.length<=140737488355328
 sgB:∀ x∈s.signers,a9H x
theorem Ws (s:Sd) (m:Int) (h0:0<=m) (h1:m<=1000000) (h:SdD s):Mt prog 46 [.st s.enc,.i m] (λd=>∃ n:Int,d=.i n/\(n<=m->n=sdW s)):=by
 obtain⟨b1,b2,b3,b4,b5,b6,b7,b8⟩:=h;refine an func46 U ntmps46 U (λe=>?_);refine W ?_;refine Ci U (λg1=>?_) (λg1=>?_)
 ·refine W ?_;exact Rt U U ⟨_,U,by omega⟩
 refine W ?_;refine Ce U U (a0T s.yj s.crls m h0 h1 b3 b4 b5 b6) (λd' hd=>?_);obtain⟨n1,rfl,p1,p2,p3⟩:=hd;refine W ?_;refine Lp (γ:=Nat×Int) (λg=>g.1<=s.signers.length/\0<=g.2/\g.2<=m+100000000000000000/\(g.2<=m->g.2=s.type.length+s.content.length+(wS Fx s.yj+wS Kc s.crls)+wS MV (s.signers.take g.1))) (λg=>s.signers.length+1-g.1)
  (λg=>[(1,.d (.i m)),(2,.own 0 0),(5,.d (.i g.2)),(6,.d (.i (g.1:Int)))]) (λ_=>[(0,.B1 28 (.st s.enc))]) (0,_) ⟨by simp,by simp only;omega,by simp only;omega,by simp only;intro hm;have:=p3 xE;simp [wS];omega⟩ ⟨U,U,U,U,trivial⟩ ⟨U,trivial⟩ ?_
 clear p1 p2 p3 g1;rintro⟨g,n⟩ ⟨i0,i1,i2,i3⟩;dsimp only at i0 i1 i2 i3;show JD _ _ _ _ _ [(1,.d (.i m)),(2,.own 0 0),(5,.d (.i n)),(6,.d (.i (g:Int)))] [(0,.B1 28 (.st s.enc))];have fin:g=s.signers.length\/m<n->∃ k:Int,yR [.i n]=.i k/\(k<=m->k=sdW s):=λhh=>⟨n,U,λhn=>by
  rcases hh with hh|hh
  ·rw [i3 hn,hh,xK];unfold sdW;omega
  ·omega⟩
 refine W ?_;refine Bg U U (λh3=>?_) (λh3=>?_)
 ·have yJ:g<s.signers.length:=by omega
  have yL:s.signers.getD g default=s.signers[g]:=aU yJ;have x1:=b8 _ (ax yJ);rw [<- yL] at x1;have ht:=m5 MV yJ;obtain⟨z1,z2,z3,z4,z5,z6,z7,z8,z9⟩:=x1;have c1:=fg (s.signers.getD g default).yg m h0 xE z1 z2;have c2:=fK (s.signers.getD g default).signed m h0 xE z5 z6;have c3:=fK (s.signers.getD g default).yc m h0 xE z8 z9;have q1:=qZ m (s.signers.getD g default).yg 0 z2 xE xE;have q2:=Po m (s.signers.getD g default).signed 0 z6 xE xE;have q3:=Po m (s.signers.getD g default).yc 0 z9 xE xE;have e1:=qY m (s.signers.getD g default).yg 0;have e2:=Pn m (s.signers.getD g default).signed 0;have e3:=Pn m (s.signers.getD g default).yc 0;refine W ?_;refine Ci U (λh4=>?_) (λh4=>?_)
  ·refine W ?_;refine bm U (yi.mul U U xE U U) ?_;refine W ?_;refine⟨(g+1,_),by simp only;omega,⟨by simp only;omega,?_,?_,?_⟩,y9,y9⟩
   ·simp only;omega
   ·simp only;omega
   ·simp only;intro hm;have k0:=i3 h4;have k1:=e1 xE;have k2:=e2 xE;have k3:=e3 xE;rw [ht,k1,k2,k3];unfold MV at k0 |-;omega
  ·exact m87
 ·exact m88
theorem a3d {cs:List BU}(h:NQ cs=false):∀ c∈cs,c.key.n.length<=26:=λc hc=>by
 obtain⟨i,hi,rfl⟩:=BB hc;have:=zz h;have h2:¬ 26<(cs.getD i default).key.n.length:=λhh=>this ⟨i,hi,hh⟩;rw [aU hi] at h2;omega
theorem a2y (s:Sd) (h:SdD s):Mt prog 14 [.st s.enc] (λd=>∃ b,d=.b b/\(b=false->sdW s<=12000/\∀ c∈s.yj,c.key.n.length<=26)):=by
 have cg:=a2D s.yj h.cs;refine an func14 U ntmps14 U (λe=>?_);refine W ?_;refine Ce U U (Ws s 12000 yD yD h) (λd' hd=>?_);obtain⟨n,rfl,hn⟩:=hd;refine W ?_;refine Bg U U (λh1=>?_) (λh1=>?_)
 ·refine W ?_;exact Rt U U ⟨true,U,by simp⟩
 ·refine W ?_;exact Rt U U ⟨NQ s.yj,U,λhb=>⟨by have:=hn xE;omega,a3d hb⟩⟩
end Go.Proofs.YtilafeifbaaagaaGreatDoor
