/- Parts. -/
import Derived.Test.YtilafeifbaaagaaGreatDoorR6
set_option maxRecDepth 100000
set_option maxHeartbeats 8000000
set_option linter.unusedSimpArgs false
set_option linter.unusedVariables false
set_option linter.constructorNameAsVariable false
namespace Go.Proofs.YtilafeifbaaagaaGreatDoor
open Go.Proofs.Tryz
open Go Go.RowKit
theorem m15 {p:Prop}(u:p:=by
 rw [ep] at eS;refine W ?_;exact⟨(⟨true,_,_,false,0,[],[]⟩,⟨Cj,true,_⟩),eS _ U,⟨⟨_,U,az⟩,⟨_,U,az⟩,⟨_,U,az⟩,⟨_,U,az⟩,trivial⟩,⟨_,U,cQ⟩,⟨_,U,MK.v ⟨dL,az,az,az,az,az,az,trivial⟩⟩,⟨_,U,cQ⟩,⟨_,U,cQ⟩,trivial⟩):p:=u
theorem m119 {p:Prop}(u:p:=by
 rw [eA];refine W ?_;exact⟨(),trivial,⟨⟨_,U,az⟩,⟨_,U,az⟩,⟨_,U,az⟩,⟨_,U,az⟩,trivial⟩,y9⟩):p:=u
theorem m170 {p:Prop}(u:p:=by
 refine W ?_;exact⟨(),trivial,⟨⟨_,U,az⟩,⟨_,U,az⟩,trivial⟩,y9⟩):p:=u
theorem m171 {p:Prop}(u:p:=by
 refine⟨g+1,by omega,by omega,?_,?_⟩
 ·rw [eg];exact y9
 ·rw [eg];exact y9):p:=u
theorem m176 {p:Prop}(u:p:=by
 rw [hc];refine W ?_;exact Rt U U ⟨f,by rw [hI];unfold Ej;rw [hc];rfl⟩):p:=u
theorem m185 {p:Prop}(u:p:=by
 rw [xD hA,xP,hR];exact⟨(ah (λk=>k hA)).symm,U,λk=>absurd hA k⟩):p:=u
theorem m188 {p:Prop}(u:p:=by
 exact⟨g+1,by omega,by omega,y9,y9⟩):p:=u
abbrev zg:=@Classical.not_not
section
variable {P:Program} [Tb P] {F:Fd}{a:LO}{o:LQ}{ops:Array Oper}{d:Nat}{ty T yt:TypeId}{pos:String}{af:Array Edge}{g:Option (Nat×Bool)}{xo yo:Operand}{p q:Int}{k:IntKind}
theorem yi.cvB {src dst:TypeId}{kk:IntKind}(hx:z' a xo=some (.d (.v (.int kk p)))) (hc:Bz P src dst=some .u8) (h0:0<=p/\p<=255) (hg:Cc ops a g=some true) (hd:Nat.blt d F.m=true) :
 yi P F ops a o ⟨some d,.convert src dst xo,ty,pos,af,g⟩ d (.d (.v (.int .u8 p))):=.run hg hd λρ h S L cz=>⟨_,by
  have:=cB (f:=F.fr P) (h:=h) (L:=L) (ty:=ty) hc (bR cz hx);rwa [jN p h0.1 h0.2] at this,bh (h:=h)⟩
theorem yi.b1y (hx:z' a xo=some (.d (.v (.int .u8 p)))) (hy:z' a yo=some (.d (.v (.int .u8 q)))) (hg:Cc ops a g=some true) (hd:Nat.blt d F.m=true) :
 yi P F ops a o ⟨some d,.binOp .add T xo yo yt,ty,pos,af,g⟩ d (.d (.v (.int .u8 ((p+q) % 256)))):=.bin hx hy (λS h L h1 h2=>by
  have:=xG.add (f:=F.fr P) (h:=h) (L:=L) (ty:=ty) (T:=T) (yt:=yt) h1 h2;rwa [IntKind.wrap_u8] at this) hg hd
end
theorem a4F (b:UInt8) (m:Nat) (hm:m<=128):UInt8.ofNat (((b.toNat:Int)+(m:Int)) % 256).toNat=b+UInt8.ofNat m:=by
 apply zh.1;have hb:=zA b;rw [UInt8.toNat_add,xZ,xZ];omega
theorem qo (n:Int) (h0:0<=n):yq prog 330 [.i n] (.bs (Ks n)):=by
 refine an func330 U ntmps330 U (λe=>?_);refine W ?_;refine Rn kB 3 5 U U ?_;refine Lp (γ:=Nat) (λg=>g<=9) (λg=>10-g) (λg=>[(0,.d (.i n)),(3,.row 0),(4,.d (.i (((Dx n g).2:Nat):Int))),(5,.d (.i (g:Int)))]) (λg=>[(0,.row 5 (.bs (Dx n g).1))]) 0 xE y9 y9 ?_;intro g hg;have Nz:=(jh n g).1;have hal:=a0D n g;refine W ?_;refine Ci U (λh1=>?_) (λh1=>?_)
 ·refine W ?_;refine Jm (γ:=Unit) (λ_=>[(0,.d (.i n)),(3,.row 0),(4,.d (.i (((Dx n g).2:Nat):Int))),(5,.d (.i (g:Int)))]) (λ_=>[(0,.row 5 (.bs (VS n g)))]) (λ_=>True) ?_ ?_
  ·refine Ci U (λh2=>?_) (λh2=>?_)
   ·have eA:VS n g=(Dx n g).1++[0]:=xD xE;exact m119
   ·have eA:VS n g=(Dx n g).1:=xC xE;exact m119
  rintro _ _;have hbt:=OH n g h0 xE xE;rw [CC] at hbt;refine W ?_;refine Ci U (λh3=>?_) (λh3=>?_)
  ·refine W ?_;refine Lp (γ:=Nat) (λk=>k<=g % 8) (λk=>9-k) (λk=>[(3,.row 0),(5,.d (.i (g:Int))),(0,.d (.i n)),(6,.d (.i ((128 / 2 ^ k:Nat):Int))),(7,.d (.i (k:Int)))]) (λ_=>[(0,.row 5 (.bs (VS n g)))]) 0 xE y9 y9 ?_;intro k hk;have Me:128 / 2 ^ k<=128:=Kk ..;have e6:((128 / 2 ^ k:Nat):Int) / 2=((128 / 2 ^ (k+1):Nat):Int):=by
    rw [yh,<- zm];rfl
   have eQ:k=g % 8->∀ Q,128 / 2 ^ k=Q->UG n g=true->Dx n (g+1)=((VS n g).set (g / 8) ((VS n g).getD (g / 8) 0+UInt8.ofNat Q),g+1):=λe Q h hb=>by
    rw [<- h,e];exact a4C hb
   generalize hQ:128 / 2 ^ k=Q at Me e6 eQ |-
   refine W ?_;refine Ci U (λh4=>?_) (λh4=>?_)
   ·refine W ?_;rw [e6];exact⟨k+1,by omega,by omega,y9,y9⟩
   ·have ek:k=g % 8:=by omega
    refine W ?_;refine Rwl (g / 8) U U U xE xE cq cq U U ?_;refine W ?_;refine aI (yi.cvB U (by decide +kernel) ⟨by omega,by omega⟩ U U) ?_;refine aI (yi.b1y U U U U) ?_;refine Rws (g / 8) U U U U (λh=>by injection h with h;exact absurd h yD) xE xE ⟨by omega,by omega⟩ cq cq U ?_;rw [a4F _ _ Me];refine W ?_;have eg:=eQ ek Q U h3;exact m171
  ·refine W ?_;have eg:=a4D h3;exact m171
 ·have e9:g=9:=by omega
  subst e9;have hL9:=(jh n 9).2;have eU:Ks n=UInt8.ofNat (8*(((Dx n 9).2+7) / 8)-(Dx n 9).2)::(Dx n 9).1.take (((Dx n 9).2+7) / 8):=rfl;rw [eU];clear eU hal h1 hg;generalize (Dx n 9).1=B at *;generalize (Dx n 9).2=L at *;obtain rfl|rfl|rfl|rfl|rfl|rfl|rfl|rfl|rfl|rfl:L=0\/L=1\/L=2\/L=3\/L=4\/L=5\/L=6\/L=7\/L=8\/L=9:=by omega
  all_goals
   refine W ?_;refine aI (yi.mul U U yD U U) ?_;refine W ?_;refine aI (yi.cvB U (by decide +kernel) yD U U) ?_;refine W ?_;refine Pl 0 U ?_;refine aI (yi.toB (Int.toNat _) U U U U (zk yD).symm (by simp only [Nz];decide) U U) ?_;refine Ap kB U U U U U U (by simp only [aw,ay,aS];omega) U U U U ?_;exact m10
instance:Cn prog 330 (type_of% @qo):=⟨@qo⟩
theorem a0C (n:Int):(Ks n).length<=3:=by
 have:=(jh n 9).1;unfold Ks;simp only [aw,aS];omega
def VN (n:Int):Xt:=if((Ks n).length:Int)=1 then⟨[],false,[]⟩ else⟨DA,true,(Nd.mk 0 3 false (Ks n) []).put.getD []⟩
theorem om (n:Int) (h0:0<=n):yq prog 282 [.i n] (.st (Xt.enc (VN n))):=by
 have hl:=a0C n;unfold VN;refine an func282 U ntmps282 U (λe=>?_);refine W ?_;refine Ci U (λh1=>?_) (λh1=>?_)
 ·rw [xD h1];exact m10
 ·exact m207
instance:Cn prog 282 (type_of% @om):=⟨@om⟩
def T0 (c:Bool) (l:List yG):Xt:=if Ek l then⟨Ha,c,(H2 l).put.getD []⟩ else⟨[],false,[]⟩
theorem a1c (c:Bool) (l:List yG) (hl:l.length<=40) (hB:∀ s∈l,s.length<=1000000) (hz:(H2 l).sz<=10000000):yq prog 283 [.b c,.sl 1 Fj l] (.zZ [.st (Xt.enc (T0 c l)),.i (if Ek l then 0 else 62)]):=by
 have bad:Ek l=false->yR [.st (Xt.enc ⟨[],false,[]⟩),.i 62]=.zZ [.st (Xt.enc (T0 c l)),.i (if Ek l then 0 else 62)]:=λh=>by simp [T0,h,yR]
 refine an func283 U ntmps283 U (λe=>?_);refine W ?_;refine Rn kN 6 33 U U ?_;refine Lp (γ:=Nat) (λg=>g<=l.length/\g<=32/\(l.take g).all (λs=>(Ai s).isSome)=true) (λg=>50-g) (λg=>[(0,.d (.b c)),(1,.d (.sl 1 Fj l)),(4,.own 0 0),(6,.row 1),(7,.d (.i (g:Int)))])
  (λg=>[(1,.row 33 (.AX ((l.take g).map Ay))),(0,.var 147 [.d (.s []),.d (.b false),.d A1])]) 0 ⟨by omega,by omega,U⟩ y9 y9 ?_
 rintro g ⟨hg,b2d,zX⟩;have FH:((l.take g).map Ay).length<=40:=by rw [aq];have:=xY g l;omega
 refine W ?_;refine Ci U (λh1=>?_) (λh1=>?_)
 ·have yJ:g<l.length:=by omega
  have yL:l.getD g default=l[g]:=aU yJ;have b1:=hB _ (ax yJ);rw [<- yL] at b1;have c0:=mf (l.getD g default) xE;have c1:=mc (s:=l.getD g default) b1;refine W ?_;refine Bg U U (λh2=>?_) (λh2=>?_)
  ·refine W ?_;refine Rt U U (bad ?_);have:l.all (λs=>(Ai s).isSome)=false:=by
    rw [yM];exact⟨l[g],ax yJ,by rw [<- yL];simpa using h2⟩
   unfold Ek;rw [this];rfl
  refine W ?_;refine Ci U (λh3=>?_) (λh3=>?_)
  ·refine W ?_;refine Rt U U (bad ?_);unfold Ek;rw [ah (p:=(l.length:Int)<=32) xE];simp
  refine W ?_;have EW:(l.take (g+1)).map Ay=(l.take g).map Ay++[Ay (l.getD g default)]:=by rw [ai yJ,y8,yL];rfl
  have hta:(l.take (g+1)).all (λs=>(Ai s).isSome)=true:=by
   rw [ai yJ,yr,zX,<- yL];simpa using h2
  refine⟨g+1,by omega,⟨by omega,by omega,hta⟩,y9,?_⟩;rw [EW];exact y9
 ·have CK:g=l.length:=by omega
  subst CK;rw [xK] at zX;rw [xK];have c2:=qv (l:=l.map Ay);have c3:=gV Ha c (.mk 0 16 true [] (l.map Ay)) hz;refine Pb 1 U ?_;refine W ?_;refine Bg U U (λh4=>?_) (λh4=>?_)
  ·refine W ?_;refine Rt U U (bad ?_);rw [aq] at h4;unfold Ek;rw [ah (p:=0<(l.length:Int)) xE];simp
  rw [aq] at h4;refine W ?_;refine Ci U (λh5=>?_) (λh5=>?_)
  ·refine W ?_;refine Rt U U (bad ?_);have MD:2000<(((H2 l).put.getD []).length:Int):=h5;unfold Ek;rw [ah (p:=(((H2 l).put.getD []).length:Int)<=2000) xE];simp
  refine W ?_;refine Rt U U ?_;have MD:¬ 2000<(((H2 l).put.getD []).length:Int):=h5;have ok:Ek l=true:=by
   unfold Ek;rw [zX,ae (p:=(l.length:Int)<=32) xE,ae (p:=0<(l.length:Int)) xE,ae (p:=(((H2 l).put.getD []).length:Int)<=2000) xE];rfl
  simp only [T0,ok,if_true];rfl
theorem Of (b:yG):∀ i,Kr b i<2 ^ i
 |0=>by simp [Kr]
 |i+1=>by
  have ih:=Of b i;have hq:qB b i<=1:=by unfold qB;split<;>omega
  have:2 ^ i*qB b i<=2 ^ i*1:=MJ _ hq;simp only [Kr,yh];omega
theorem m7 {n:Nd}(hp:n.put.isSome=true):Dd n=true<->n=VP n/\¬ ((Ks (Kr n.bytes 9)).length:Int)=1:=by
 constructor
 ·intro h;unfold Dd at h;simp only [xB,yN,a_,xL,FD] at h;obtain⟨⟨⟨⟨h1,h2⟩,h3⟩,h4⟩,h5⟩:=h;obtain⟨e,hv⟩:=mL h1 yD;have hb:DM n.bytes=true:=by unfold AJ at hv;simpa using hv
  have key:Ks (Kr n.bytes 9)=n.bytes:=by
   have hbb:=hb;unfold DM at hbb;rw [a_] at hbb;generalize n.bytes=bs at *
   match bs,h2,h3 with
   |[u,b],_,_ =>
    have hu:u.toNat<8:=by
     have:xF [u,b] 0=u.toNat:=rfl;omega
    have eu:UInt8.ofNat u.toNat=u:=Bn;have eb:UInt8.ofNat b.toNat=b:=Bn;have:=a4z ⟨u.toNat,hu⟩ ⟨b.toNat,zA b⟩;simp only [eu,eb] at this;exact this hb h4
   |[u,b,c],_,_ =>
    have b0:xF [u,b,c] 0=u.toNat:=rfl;have b2:xF [u,b,c] 2=c.toNat:=rfl;have e3:[u,b,c].length-1=2:=rfl;rw [b0,e3,b2] at hbb;have hu7:¬ (u.toNat:Int)<7:=by
     rcases h5 with h5|h5
     ·exact absurd U h5
     ·exact h5
    have hu:u.toNat=7:=by omega
    have Is:bits .and .u8 ((c.toNat:Int) / 2 ^ u.toNat) 1≠0:=h4;rw [hu] at Is hbb;have hc:=zA c;have hcm:c.toNat % 128=0:=by
     rcases hbb.2 with h|h
     ·omega
     ·exact h
    have By:c.toNat=0\/c.toNat=128:=by omega
    have BO:c.toNat=128:=by
     rcases By with h|h
     ·rw [h] at Is;exact absurd yD Is
     ·exact h
    have eu:u=7:=zh.1 hu;have ec:c=128:=zh.1 BO;subst eu ec;have eb:UInt8.ofNat b.toNat=b:=Bn;have:=a4y ⟨b.toNat,zA b⟩;simpa only [eb] using this
  refine⟨?_,by rw [key];omega⟩;unfold VP;rw [key];exact e
 ·rintro⟨e,hl⟩;have hU:=a4x ⟨Kr n.bytes 9,Of n.bytes 9⟩;simp only at hU;have hb:n.bytes=Ks (Kr n.bytes 9):=congrArg Nd.bytes e;rcases hU with hU|⟨q1,q2,q3,q4,q5⟩
  ·exact absurd xE hl
  rw [<- hb] at q1 q2 q3 q4 q5;unfold Dd Dq;have c1:n.cls=0:=by rw [e];rfl
  have c2:n.tag=3:=by rw [e];rfl
  have e1:((n.bytes.length:Int)-1).toNat=n.bytes.length-1:=by omega
  rw [c1,c2,hp,e1,CC,ae (p:=2<=(n.bytes.length:Int)) xE,ae (p:=(n.bytes.length:Int)<=3) xE,ah q4];simp only [aJ] at q5 |-
  simp;omega
theorem a5O {s:yG}(h:(Ai s).isSome=true):(zG (Ay s)).2=true:=by
 have h1:Dq (Ay s) 6=true:=by
  unfold Dq;rw [gx h];rfl
 obtain⟨b,hb⟩:=yE.1 h;have h2:=v8 hb;unfold zG;rw [xD h1];show(AK (Ay s).bytes).isSome=true;unfold Ay;simp only [HD,hb,zw];exact h2
theorem VO {v:yG}(hv:v.length<=2000):(Ek (Eo (xN v).1)&&Ej ((H2 (Eo (xN v).1)).put.getD []) v)=true<->(xN v).2.2=0/\H9 (xN v).1=true:=by
 have hrk:(H2 (Eo (xN v).1)).rk<=32:=by
  have:∀ l:List yG,Nd.CO (l.map Ay)<=1:=λl=>by
   induction l with
   |nil=>simp [Nd.CO]
   |cons s r ih=>simp only [yy,Nd.CO];have:(Ay s).rk<=1:=sB;omega
  have:=this (Eo (xN v).1);simp only [H2,Nd.rk];omega
 rw [xB,jg hrk xE];generalize hn:(xN v).1=n at *;constructor
 ·rintro⟨zt,c,e⟩;refine⟨c,?_⟩;unfold Ek at zt;simp only [xB,a_] at zt;obtain⟨⟨⟨o1,o2⟩,o3⟩,_⟩:=zt;have hk:n.kids=(Eo n).map Ay:=congrArg Nd.kids e;unfold H9;have hs:xR n 1 32=true:=by
   unfold xR;have c1:n.cls=0:=by rw [e];rfl
   have c2:n.tag=16:=by rw [e];rfl
   have c3:n.cons=true:=by rw [e];rfl
   rw [c1,c2,c3,hk,aq];simp;omega
  rw [hs,xQ,hk,zp,xH];intro s hs;exact a5O (xH.1 o1 s hs)
 ·rintro⟨c,hu⟩;have hp:=qJ c;rw [hn] at hp;unfold H9 at hu;rw [xB] at hu;obtain⟨u1,u2⟩:=hu;obtain⟨e,l1,l2⟩:=dB u1 (by rw [hp];rfl);have eL:Eo n=n.kids.map λk=>(zG k).1:=by
   unfold Eo;rw [aD xE];exact xO λk hk=>(dW (xH.1 u2 k hk)).2.1.symm
  have eN:H2 (Eo n)=n:=by
   unfold H2;rw [eL,yv];have:n.kids.map (Ay∘λk=>(zG k).1)=n.kids:=by
    conv=>rhs;rw [<- Ag n.kids]
    exact xO λk hk=>(dW (xH.1 u2 k hk)).1
   rw [this];exact e.symm
  refine⟨?_,c,eN.symm⟩;unfold Ek;have hl:(Eo n).length=n.kids.length:=by rw [eL,aq]
  have ha:(Eo n).all (λs=>(Ai s).isSome)=true:=by
   rw [eL,zp,xH];exact λk hk=>(dW (xH.1 u2 k hk)).2.2
  rw [ha,eN,hp,hl];simp;omega
theorem a0S {v:yG}(hv:v.length<=2000):(EP (xN v).1.bytes&&Ej ((Tc (xN v).1.bytes).put.getD []) v)=true<->(xN v).2.2=0/\LL (xN v).1=true:=by
 rw [xB,jg (m:=Tc (xN v).1.bytes) (xJ sB yD) xE];generalize hn:(xN v).1=n at *;constructor
 ·rintro⟨zt,c,e⟩;have hp:=qJ c;rw [hn] at hp;refine⟨c,?_⟩;unfold EP at zt;simp only [xB,a_] at zt;unfold LL Dq;have c1:n.cls=0:=by rw [e];rfl
  have c2:n.tag=4:=by rw [e];rfl
  rw [c1,c2,hp];simp;omega
 ·rintro⟨c,hu⟩;unfold LL at hu;simp only [xB,a_] at hu;obtain⟨⟨u1,u2⟩,u3⟩:=hu;have e:=(mL u1 yD).1;refine⟨?_,c,e⟩;unfold EP;simp;omega
theorem Tj (x:Xt) (hv:x.val.length<=2000):E3 x=Dy x:=by
 rw [Kn];unfold E3 Dy;split
 ·have hr:∀ ca p,(I4 ca p).rk<=32:=λca p=>by
   unfold I4 Kg
   (repeat' split)<;>simp [Nd.rk,Nd.CO,MP,a2q]
  rw [jg (hr _ _) xE,xB,a_];constructor
  ·rintro⟨c,e⟩;exact⟨c,(rX (by rw [qJ c];rfl)).2 e⟩
  ·rintro⟨c,e⟩;exact⟨c,(rX (by rw [qJ c];rfl)).1 e⟩
 split
 ·rw [xB,a_];unfold a4A;split
  ·rename_i hl;constructor
   ·intro h;unfold Ej at h;simp only [xB,a_] at h;obtain⟨h1,h2⟩:=h;rw [<- h1] at h2;simp at h2
   ·rintro⟨c,h⟩;exact absurd hl ((m7 (by rw [qJ c];rfl)).1 h).2
  ·rename_i hl;rw [jg (m:=VP (xN x.val).1) (xJ sB yD) xE];constructor
   ·rintro⟨c,e⟩;exact⟨c,(m7 (by rw [qJ c];rfl)).2 ⟨e,hl⟩⟩
   ·rintro⟨c,h⟩;exact⟨c,((m7 (by rw [qJ c];rfl)).1 h).1⟩
 split
 ·rw [VO hv,xB,a_]
 split
 ·rw [a0S hv,xB,a_]
 exact Ew
theorem ow (x:Nd) (hz:x.sz<=10000000):yq prog 280 [.nd x] (.zZ [.i x.D7,.b x.AA]):=ou x hz
instance:Cn prog 280 (type_of% @ow):=⟨@ow⟩
instance:Inhabited Fct:=⟨⟨false,false,0,false,0,[],[]⟩⟩
theorem a7S (n:Nd):Nd.yP n.kids+1<=n.sz:=by cases n;simp only [Nd.kids,Nd.sz];omega
abbrev b1l:D:=.st [.b false,.b false,.i 0,.b false,.i 0,.sl 1 Fj [],.bs []]
theorem a5M (b:yG):(Ay ((AK b).getD [])).sz<=b.length+1:=by
 cases h:AK b with
 |none=>simp only [Option.getD_none,Ay,Nd.sz,Nd.yP,show(Ai []).getD []=[] by kernel_rfl,ay];omega
 |some s=>simp only [zw,Ay,Nd.sz,Nd.yP,qR h];omega
theorem a0B (n:Nd):(H2 (Eo n)).sz<=n.sz+41:=by
 have:∀ (l:LN),Nd.yP ((l.map λk=>(AK k.bytes).getD []).map Ay)<=Nd.yP l+l.length:=λl=>by
  induction l with
  |nil=>simp [Nd.yP]
  |cons k r ih =>
   have h1:=a5M k.bytes;have h2:=bc k;simp only [yy,Nd.yP,aw];omega
 have h:=this (n.kids.take 40);have h2:=Nd.Gv n.kids 40;have h3:=a7S n;have h4:=BA 40 n.kids;simp only [H2,Eo,Nd.sz,ay];omega
theorem VQ (b:yG) (i:Nat):((Kr b (i+1):Nat):Int)=(Kr b i:Nat)+((2 ^ i:Nat):Int)*(qB b i:Nat):=by
 rw [Kr,cP,bZ]
theorem a1e (x:Xt) (hv:x.val.length<=12000):Mt prog 204 [.st (Xt.enc x),b1l] (λd=>∃ f:Fct,d=.zZ [.st f.enc,.b (E3 x)]):=by
 have CP:=fI x.val;refine an func204 U ntmps204 U (λe=>?_);refine W ?_;refine Jf (γ:=Fct×Xt) (λ_=>[(2,.own 0 0),(3,.own 1 0),(4,.own 2 0),(8,.own 5 0)])
  (λg=>[(0,.B1 147 (.st x.enc)),(1,.var 247 [.d (.b g.1.NC),.d (.b g.1.ca),.d (.i g.1.path),.d (.b g.1.NB),.d (.i g.1.a3s),.d (.sl 1 Fj g.1.a7O),.d (.bs g.1.Ec)]),(2,.var 247 [.d (.b false),.d (.b false),.d (.i 0),.d (.b false),.d (.i 0),.d A1,.d A1]),(5,.B1 147 (.st g.2.enc))])
  (λg=>E3 x=Ej g.2.val x.val) ?_ ?_
 ·refine Ci U (λh1=>?_) (λh1=>?_)
  ·have eS:∀ V,V=(I4 (decide (0<((xN x.val).1.kids.length:Int))) (Di (xN x.val).1)).put.getD []->E3 x=Ej V x.val:=λV h=>by
    unfold E3;rw [xD (show x.zJ=Cj from h1),h]
   generalize (xN x.val).1=n at *;have ek:kdI n 1=kd n 1:=a2m n 1;have ks:(kd n 1).sz<=n.sz:=b_ n 1;have c1:=ow (kd n 1) xE;rw [<- ek] at c1;refine W ?_;rw [ek];refine Bg U U (λh2=>?_) (λh2=>?_)
   ·refine W ?_;refine Bg U U (λh3=>?_) (λh3=>?_)
    ·refine W ?_;refine Ci U (λh4=>?_) (λh4=>?_)
     ·have ep:Di n=(kd n 1).D7:=xD ⟨h2,h3,h4⟩;exact m15
     ·have ep:Di n=-1:=xC xE;exact m15
    ·have ep:Di n=-1:=xC xE;exact m15
   ·have ep:Di n=-1:=xC (λh=>by rw [h.1] at h2;cases h2);exact m15
  refine W ?_;refine Ci U (λh2=>?_) (λh2=>?_)
  ·have eS:E3 x=Ej (VN (Kr (xN x.val).1.bytes 9:Nat)).val x.val:=by
    unfold E3;rw [xC (show ¬ x.zJ=Cj from h1),xD (show x.zJ=DA from h2)];unfold a4A VN VP;split<;>rfl
   have kb:=bc (xN x.val).1;generalize (xN x.val).1=n at *;refine W ?_;refine Lp (γ:=Nat) (λg=>g<=9) (λg=>10-g) (λg=>[(2,.own 0 0),(3,.own 1 0),(4,.own 2 0),(6,.own 3 0),(8,.own 5 0),(11,.d (.i ((2 ^ g:Nat):Int))),(12,.d (.i (g:Int)))])
    (λg=>[(0,.B1 147 (.st x.enc)),(1,.var 247 [.d (.b false),.d (.b false),.d (.i 0),.d (.v (.bool true)),.d (.i ((Kr n.bytes g:Nat):Int)),.d (.sl 1 Fj []),.d (.bs [])]),(2,.var 247 [.d (.b false),.d (.b false),.d (.i 0),.d (.b false),.d (.i 0),.d A1,.d A1]),(3,.B1 33 (.nd n)),(5,.B1 147 (.st [.s [],.b false,A1]))]) 0 xE y9 y9 ?_
   intro g hg;have hT:2 ^ g<=512:=xJ (yf yD hg) yD;have hU:=Of n.bytes g;have eU:=VQ n.bytes g;have eT:((2 ^ g:Nat):Int)*2=((2 ^ (g+1):Nat):Int):=by rw [yh,bZ];rfl
   refine W ?_;refine Ci U (λh3=>?_) (λh3=>?_)
   ·refine W ?_;refine Ci U (λh4=>?_) (λh4=>?_)
    ·have eq:qB n.bytes g=(n.bytes.getD (1+g / 8) 0).toNat / 2 ^ (7-g % 8) % 2:=xD xE;have hB:=zA (n.bytes.getD (1+g / 8) 0);refine W ?_;generalize (n.bytes.getD (1+g / 8) 0)=B8 at *;refine W ?_;refine Lp (γ:=Nat) (λk=>g % 8+k<=7) (λk=>9-k) (λk=>[(2,.own 0 0),(3,.own 1 0),(4,.own 2 0),(6,.own 3 0),(8,.own 5 0),(11,.d (.i ((2 ^ g:Nat):Int))),(12,.d (.i (g:Int))),(13,.d (.i ((B8.toNat / 2 ^ k:Nat):Int))),(14,.d (.i ((g:Int) % 8+k)))])
      (λk=>[(0,.B1 147 (.st x.enc)),(1,.var 247 [.d (.b false),.d (.b false),.d (.i 0),.d (.v (.bool true)),.d (.i ((Kr n.bytes g:Nat):Int)),.d (.sl 1 Fj []),.d (.bs [])]),(2,.var 247 [.d (.b false),.d (.b false),.d (.i 0),.d (.b false),.d (.i 0),.d A1,.d A1]),(3,.B1 33 (.nd n)),(5,.B1 147 (.st [.s [],.b false,A1]))]) 0 xE ?_ y9 ?_
     ·show Ms [(2,.own 0 0),(3,.own 1 0),(4,.own 2 0),(6,.own 3 0),(8,.own 5 0),(11,.d (.i ((2 ^ g:Nat):Int))),(12,.d (.i (g:Int))),(13,.d (.i ((B8.toNat / 2 ^ 0:Nat):Int))),(14,.d (.i ((g:Int) % 8+(0:Nat))))] _;rw [GY,G8,show(g:Int) % 8+(0:Nat)=(g:Int) % 8 by omega];exact y9
     intro k hk;have TW:B8.toNat / 2 ^ k<=255:=xJ (Kk ..) xE;have e6:((B8.toNat / 2 ^ k:Nat):Int) / 2=((B8.toNat / 2 ^ (k+1):Nat):Int):=by
      rw [yh,<- zm];rfl
     have eQ:k=7-g % 8->∀ Q,B8.toNat / 2 ^ k=Q->qB n.bytes g=Q % 2:=λe Q h=>by rw [eq,<- e,h]
     generalize hQ:B8.toNat / 2 ^ k=Q at TW e6 eQ |-
     refine W ?_;refine Ci U (λh5=>?_) (λh5=>?_)
     ·refine W ?_;rw [e6];refine⟨k+1,by omega,by omega,?_,y9⟩;show Ms [(2,.own 0 0),(3,.own 1 0),(4,.own 2 0),(6,.own 3 0),(8,.own 5 0),(11,.d (.i ((2 ^ g:Nat):Int))),(12,.d (.i (g:Int))),(13,.d (.i ((B8.toNat / 2 ^ (k+1):Nat):Int))),(14,.d (.i ((g:Int) % 8+((k+1:Nat):Int))))] _;rw [show(g:Int) % 8+((k+1:Nat):Int)=(g:Int) % 8+k+1 by omega];exact y9
     ·have q1:=eQ xE Q U;rw [q1] at eU;generalize hTT:2 ^ g=T at hT hU eU eT |-
      have em:(T:Int)*((Q:Int) % 2)=(T:Int)*((Q % 2:Nat):Int):=rfl;have hm:0<=(T:Int)*((Q:Int) % 2)/\(T:Int)*((Q:Int) % 2)<=512:=by
       rcases(show(Q:Int) % 2=0\/(Q:Int) % 2=1 by omega) with h|h<;>rw [h]<;>omega
      refine W ?_;refine aI (yi.mul U U xE U U) ?_;refine W ?_;refine aI (yi.mul U U xE U U) ?_;refine W ?_;rw [em,<- eU,eT];exact m188
    ·have eq:qB n.bytes g=0:=xC xE;rw [eq] at eU;generalize hTT:2 ^ g=T at hT hU eU eT |-
     refine W ?_;refine aI (yi.mul U U xE U U) ?_;refine W ?_;have eU2:((Kr n.bytes (g+1):Nat):Int)=(Kr n.bytes g:Nat):=by rw [eU];simp
     rw [<- eU2,eT];exact m188
   ·have e9:g=9:=by omega
    subst e9;have c1:=om (Kr n.bytes 9:Nat) (Hm _);refine W ?_;exact⟨(⟨false,false,0,true,_,[],[]⟩,VN (Kr n.bytes 9:Nat)),eS,⟨⟨_,U,az⟩,⟨_,U,az⟩,⟨_,U,az⟩,⟨_,U,az⟩,trivial⟩,⟨_,U,cQ⟩,⟨_,U,MK.v ⟨az,az,az,dL,az,az,az,trivial⟩⟩,⟨_,U,cQ⟩,⟨_,U,cQ⟩,trivial⟩
  refine W ?_;refine Ci U (λh3=>?_) (λh3=>?_)
  ·have eS:E3 x=(Ek (Eo (xN x.val).1)&&Ej ((H2 (Eo (xN x.val).1)).put.getD []) x.val):=by
    unfold E3;rw [xC (show ¬ x.zJ=Cj from h1),xC (show ¬ x.zJ=DA from h2),xD (show x.zJ=Ha from h3)]
   have kz:=dQ (xN x.val).1;generalize (xN x.val).1=n at *;have cu:=a1c x.a2Z (Eo n) (by unfold Eo;rw [aq];exact BA 40 n.kids) (λs hs=>by
    obtain⟨k,hk,rfl⟩:=y'.1 hs;have h1:=bX (List.mem_of_mem_take hk);have h2:=a7S n;have ol:=lE k.bytes;have kb:=bc k;omega) (by have:=a0B n;omega)
   refine W ?_;refine Rv (kS 1 Fj) 1 5 9 U U U U U U ?_;refine Lp (γ:=Nat) (λg=>g<=n.kids.length/\g<=40) (λg=>50-g) (λg=>[(2,.own 0 0),(3,.own 1 0),(4,.own 2 0),(6,.own 3 0),(8,.own 5 0),(15,.d (.i (g:Int)))])
    (λg=>[(0,.B1 147 (.st x.enc)),(1,.var 247 [.d (.b false),.d (.b false),.d (.i 0),.d (.b false),.d (.i 0),.row 6,.d (.bs [])]),(6,.row 9 (.sl 1 Fj ((n.kids.take g).map λk=>(AK k.bytes).getD []))),(2,.var 247 [.d (.b false),.d (.b false),.d (.i 0),.d (.b false),.d (.i 0),.d A1,.d A1]),(3,.B1 33 (.nd n)),(5,.B1 147 (.st [.s [],.b false,A1]))]) 0 xE y9 y9 ?_
   rintro g ⟨hg,b2c⟩;have FH:((n.kids.take g).map λk=>(AK k.bytes).getD []).length<=40:=by rw [aq];have:=BA g n.kids;omega
   repeat (refine JD.seq ?_)
   refine Jm (γ:=Bool) (λb=>[(2,.own 0 0),(3,.own 1 0),(4,.own 2 0),(6,.own 3 0),(8,.own 5 0),(15,.d (.i (g:Int))),(116,.d (.bq b))]) (λ_=>[(0,.B1 147 (.st x.enc)),(1,.var 247 [.d (.b false),.d (.b false),.d (.i 0),.d (.b false),.d (.i 0),.row 6,.d (.bs [])]),(6,.row 9 (.sl 1 Fj ((n.kids.take g).map λk=>(AK k.bytes).getD []))),(2,.var 247 [.d (.b false),.d (.b false),.d (.i 0),.d (.b false),.d (.i 0),.d A1,.d A1]),(3,.B1 33 (.nd n)),(5,.B1 147 (.st [.s [],.b false,A1]))]) (λb=>b=(decide ((g:Int)<n.kids.length)&&decide ((g:Int)<40))) ?_ ?_
   ·refine W ?_;refine Bg U U (λq1=>?_) (λq1=>?_)
    ·refine W ?_;exact⟨decide ((g:Int)<40),by rw [ae q1];rfl,⟨⟨_,U,az⟩,⟨_,U,az⟩,⟨_,U,az⟩,⟨_,U,az⟩,⟨_,U,az⟩,⟨_,U,az⟩,⟨_,U,az⟩,trivial⟩,y9⟩
    ·refine W ?_;exact⟨false,by rw [ah q1];rfl,⟨⟨_,U,az⟩,⟨_,U,az⟩,⟨_,U,az⟩,⟨_,U,az⟩,⟨_,U,az⟩,⟨_,U,az⟩,⟨_,U,dL⟩,trivial⟩,y9⟩
   rintro b hb;refine Ci U (λq2=>?_) (λq2=>?_)
   ·rw [q2] at hb;simp only [Bool.true_eq,xB,a_] at hb;have hl:g<n.kids.length:=by omega
    have kg:=b_ n g;have e3:(n.kids.take (g+1)).map (λk=>(AK k.bytes).getD [])=(n.kids.take g).map (λk=>(AK k.bytes).getD [])++[(AK (n.kids.getD g (.mk 0 0 false [] [])).bytes).getD []]:=by
     rw [ai hl,y8,aU hl];rfl
    refine W ?_;refine Kz (kS 1 Fj) (l2:=[(AK (n.kids.getD g (.mk 0 0 false [] [])).bytes).getD []]) U U U U U U U JA U U U ?_;refine HA U U ?_;refine bI U ?_;refine Kj 6 U U U U U ?_;refine W ?_;refine⟨g+1,by omega,⟨by omega,by omega⟩,y9,?_⟩;rw [e3];exact y9
   ·rw [q2] at hb;have hL:(n.kids.take g).map (λk=>(AK k.bytes).getD [])=Eo n:=by
     unfold Eo;by_cases hl:(g:Int)<n.kids.length
     ·rw [ae hl,xQ] at hb;rw [show g=40 by have:=zz hb.symm;omega]
     ·rw [show g=n.kids.length by omega,xK,aD xE]
    rw [hL];refine Pb 6 U ?_;refine W ?_;cases zt:Ek (Eo n) with
    |false =>
     refine Ci U (λq3=>?_) (λq3=>?_)
     ·refine W ?_;exact Rt U U ⟨⟨false,false,0,false,0,Eo n,[]⟩,by rw [eS,zt];rfl⟩
     ·exact absurd q3 yD
    |true =>
     refine Ci U (λq3=>?_) (λq3=>?_)
     ·exact absurd (xD U) q3
     ·refine W ?_;exact⟨(⟨false,false,0,false,0,Eo n,[]⟩,T0 x.a2Z (Eo n)),by rw [eS,zt];unfold T0;rw [xD zt];rfl,⟨⟨_,U,az⟩,⟨_,U,az⟩,⟨_,U,az⟩,⟨_,U,az⟩,trivial⟩,⟨_,U,cQ⟩,⟨_,U,cQ⟩,⟨_,U,cQ⟩,⟨_,U,cQ⟩,trivial⟩
  refine W ?_;refine Ci U (λh4=>?_) (λh4=>?_)
  ·have eS:E3 x=(EP (xN x.val).1.bytes&&Ej ((Tc (xN x.val).1.bytes).put.getD []) x.val):=by
    unfold E3;rw [xC (show ¬ x.zJ=Cj from h1),xC (show ¬ x.zJ=DA from h2),xC (show ¬ x.zJ=Ha from h3),xD (show x.zJ=M3 from h4)]
   have kb:=bc (xN x.val).1;generalize (xN x.val).1=n at *;have cu:=Oz n.bytes xE;cases zt:EP n.bytes with
   |false =>
    rw [zt] at cu;refine W ?_;exact Rt U U ⟨⟨false,false,0,false,0,[],n.bytes⟩,by rw [eS,zt];rfl⟩
   |true =>
    rw [zt] at cu;refine W ?_;exact⟨(⟨false,false,0,false,0,[],n.bytes⟩,⟨M3,false,(Tc n.bytes).put.getD []⟩),by rw [eS,zt];rfl,⟨⟨_,U,az⟩,⟨_,U,az⟩,⟨_,U,az⟩,⟨_,U,az⟩,trivial⟩,⟨_,U,cQ⟩,⟨_,U,cQ⟩,⟨_,U,cQ⟩,⟨_,U,cQ⟩,trivial⟩
  have eS:E3 x=true:=by
   unfold E3;rw [xC (show ¬ x.zJ=Cj from h1),xC (show ¬ x.zJ=DA from h2),xC (show ¬ x.zJ=Ha from h3),xC (show ¬ x.zJ=M3 from h4)]
  refine W ?_;exact Rt U U ⟨⟨false,false,0,false,0,[],[]⟩,by rw [eS];rfl⟩
 rintro⟨f,m⟩ hI;dsimp only at hI;refine W ?_;refine EK 165 U (λhc h=>?_) (λhc h=>?_)
 ·exact m176
 ·exact m176
def JS (x:Xt):Bool:=decide (EN x=0)&&Dy x
def Xv (x:Xt):Bool:=decide (EN x=0)&&E3 x
theorem uX (x:Xt):Xv x=JS x:=by
 unfold Xv JS;by_cases h:EN x=0
 ·rw [Tj x (by
   unfold EN at h;split at h
   ·rename_i h2;rw [xB,a_] at h2;exact h2.2
   ·exact absurd h yD)]
 ·rw [ah h];rfl
abbrev SL (a b:Xt):Prop:=a.zJ≠b.zJ
theorem rA:∀ (l:List Xt) (seen:List yG),GG seen l=true<->(∀ x∈l,JS x=true/\x.zJ ∉ seen)/\l.Pairwise SL
 |[],seen=>by simp [GG]
 |x::r,seen=>by
  have ih:=rA r (seen++[x.zJ]);simp only [GG];have e1:((seen.any λt=>decide (t=x.zJ))=true)<->x.zJ∈seen:=by simp
  rw [List.pairwise_cons];by_cases h1:EN x=0
  ·rw [xC (by simpa using h1)];by_cases h2:x.zJ∈seen
   ·rw [xD (e1.2 h2)];simp only [bg,false_iff];rintro⟨h,_⟩;exact(h x (aC ..)).2 h2
   ·rw [xC (λh=>h2 (e1.1 h))];by_cases h3:Dy x=true
    ·rw [xD h3,ih];constructor
     ·rintro⟨p1,p2⟩;refine⟨λy hy=>?_,λy hy=>?_,p2⟩
      ·rw [zE] at hy;rcases hy with rfl|hy
       ·exact⟨by unfold JS;rw [ae h1,h3];rfl,h2⟩
       ·have:=p1 y hy;exact⟨this.1,λh=>this.2 (List.mem_append_left _ h)⟩
      ·have:=p1 y hy;exact λh=>this.2 (by rw [<- h];simp)
     ·rintro⟨p1,p2,p3⟩;refine⟨λy hy=>?_,p3⟩;have q:=p1 y (aE _ hy);refine⟨q.1,λh=>?_⟩;rw [Bo,zS] at h;rcases h with h|h
      ·exact q.2 h
      ·exact p2 y hy h.symm
    ·rw [xC h3];simp only [bg,false_iff];rintro⟨h,_⟩;have:=(h x (aC ..)).1;unfold JS at this;simp at this;exact h3 this.2
  ·rw [xD h1];simp only [bg,false_iff];rintro⟨h,_⟩;have:=(h x (aC ..)).1;unfold JS at this;simp at this;exact h1 this.1
theorem rC (l:List Xt):D8 l=true<->l.length<=32/\(∀ x∈l,JS x=true)/\l.Pairwise SL:=by
 unfold D8;rw [xB,a_,rA];constructor
 ·rintro⟨⟨h1,h2⟩,h3⟩;exact⟨by omega,λx hx=>(h1 x hx).1,h2⟩
 ·rintro⟨h1,h2,h3⟩;exact⟨⟨λx hx=>⟨h2 x hx,by simp⟩,h3⟩,by omega⟩
theorem a1i (l:List Xt) (hB:∀ x∈l,x.zJ.length<=12000/\x.val.length<=12000) (hl:l.length<=100000):yq prog 97 [.sl 3 Xt.enc l] (.b (D8 l)):=by
 have bad:¬ (l.length<=32/\(∀ x∈l,JS x=true)/\l.Pairwise SL)->D8 l=false:=λh=>by
  cases hh:D8 l with
  |false=>rfl
  |true=>exact absurd ((rC l).1 hh) h
 refine an func97 U ntmps97 U (λe=>?_);refine W ?_;refine Ci U (λh0=>?_) (λh0=>?_)
 ·rw [bad (λh=>by have:=h.1;omega)];exact m10
 refine W ?_;refine Lp (γ:=Nat) (λg=>g<=l.length/\(∀ x∈l.take g,JS x=true)/\(l.take g).Pairwise SL) (λg=>l.length+1-g) (λg=>[(0,.d (.sl 3 Xt.enc l)),(3,.d (.i (g:Int)))]) (λ_=>[]) 0 ⟨by omega,by simp,by simp⟩ y9 trivial ?_;rintro g ⟨hg,ha,hp⟩;refine W ?_;refine Ci U (λh1=>?_) (λh1=>?_)
 ·have yJ:g<l.length:=by omega
  have yL:l.getD g default=l[g]:=aU yJ;obtain⟨b1,b2⟩:=hB _ (ax yJ);rw [<- yL] at b1 b2;have a6g:l.getD g default∈l:=by rw [yL];exact ax yJ
  have c1:=np (l.getD g default) xE xE;have EW:l.take (g+1)=l.take g++[l.getD g default]:=by rw [ai yJ,yL]
  refine W ?_;refine Ce U U (a1e (l.getD g default) b2) (λd' hd=>?_);obtain⟨fc,rfl⟩:=hd;refine W ?_;have a7o:JS (l.getD g default)=false->D8 l=false:=λh=>bad (λhh=>by rw [hh.2.1 _ a6g] at h;cases h);rw [<- uX] at a7o;refine Bg U U (λq1=>?_) (λq1=>?_)
  ·rw [a7o (by unfold Xv;rw [ah q1];rfl)];exact m10
  refine W ?_;refine Ci U (λq2=>?_) (λq2=>?_)
  ·rw [a7o (by unfold Xv;rw [show E3 (l.getD g default)=false by simpa using q2,yA])];exact m10
  have okg:JS (l.getD g default)=true:=by
   rw [<- uX];unfold Xv;rw [ae (show EN (l.getD g default)=0 by simpa using q1),show E3 (l.getD g default)=true by simpa using q2];rfl
  refine W ?_;refine Lp (γ:=Nat) (λk=>k<=g/\∀ j,j<k->(l.getD j default).zJ≠(l.getD g default).zJ) (λk=>g+1-k) (λk=>[(0,.d (.sl 3 Xt.enc l)),(3,.d (.i (g:Int))),(8,.d (.i (k:Int)))]) (λ_=>[]) 0 ⟨by omega,λj hj=>by omega⟩ y9 trivial ?_;rintro k ⟨hk,D5⟩;refine W ?_;refine Ci U (λq3=>?_) (λq3=>?_)
  ·refine W ?_;refine Ci U (λq4=>?_) (λq4=>?_)
   ·rw [bad (λhh=>by
     have h2:=HE.1 hh.2.2 k g xE yJ xE;rw [yL,aU (show k<l.length by omega)] at q4;exact h2 q4)]
    exact m10
   ·refine W ?_;refine⟨k+1,by omega,⟨by omega,λj hj=>?_⟩,y9,trivial⟩;by_cases hjk:j=k
    ·subst hjk;exact q4
    ·exact D5 j xE
  ·refine W ?_;refine⟨g+1,by omega,⟨by omega,?_,?_⟩,y9,trivial⟩
   ·rw [EW];intro y hy;rw [Bo,zS] at hy;rcases hy with hy|rfl
    ·exact ha y hy
    ·exact okg
   ·rw [EW,List.pairwise_append];refine⟨hp,by simp,λy hy z hz=>?_⟩;rw [zS] at hz;subst hz;obtain⟨j,hj,rfl⟩:=BB hy;have hjl:j<g:=by have:=hj;rw [aS] at this;omega
    have:=D5 j xE;rw [aU (show j<l.length by omega)] at this;rw [List.getElem_take];exact this
 ·have CK:l.take g=l:=aD xE;rw [CK] at ha hp;rw [(rC l).2 ⟨by omega,ha,hp⟩];exact m10
theorem oe (t:Int):Bj t=0<->inT t:=by
 unfold Bj A_ AP;by_cases h1:t < -631152000\/2524607999<t
 ·rw [xD h1];by_cases h2:t < -62167219200\/253402300799<t
  ·rw [xD h2];simp;omega
  ·rw [xC h2];simp;omega
 ·rw [xC h1];simp;omega
theorem ss (h:Int):0<=A6 h:=by
 unfold A6;split
 ·rename_i hh;unfold AN at hh;omega
 ·omega
def Hq (c:BU):Bool:=decide (0<zQ c.xU)&&decide (zQ c.xU<=160)&&decide (0<A6 c.hash)&&decide (-62167219200<=c.O8)&&decide (c.O8<=253402300799)&&decide (-62167219200<=c.NX)&&decide (c.NX<=253402300799)
theorem WE (c:BU) (h:DV c<=12000):yq prog 95 [.st c.enc] (.b (Hq c)):=by
 have hw:=jF h;have c0:=gX c.xU (by have:=hw.ser;omega);unfold Hq;exact an func95 U ntmps95 U (λe=>Z)
theorem qE (c:BU):F4 c=if Hq c=false then 60 else if CW c.yg≠0 then 61 else if CW c.AR≠0 then 61 else if P0 c.key=false then 50 else if zQ c.key.d≠0 then 50 else if D8 c.exts=false then 62 else 0:=by
 have hs:=ss c.hash;have h1:=oe c.O8;have h2:=oe c.NX;have hk:(0<zQ c.key.d)=(zQ c.key.d≠0):=by
  have h0:(0:Int)<=zQ c.key.d:=Hm _;apply propext;constructor<;>intro h<;>omega
 have hn:(0:Int)<=zQ c.xU:=Hm _;unfold F4;simp only [hk];cases hS:Hq c with
 |true =>
  unfold Hq at hS;simp only [xB,a_] at hS;rw [xC xE,xC xE,xC xE,xC (λh=>h (h1.2 ⟨by omega,by omega⟩)),xC (λh=>h (h2.2 ⟨by omega,by omega⟩)),xC (show ¬ (true=false) by simp)]
 |false =>
  rw [xD rfl];split
  ·rfl
  split
  ·rfl
  split
  ·rfl
  split
  ·rfl
  split
  ·rfl
  rename_i q1 q2 q3 q4 q5;have q4:=h1.1 (xM.1 q4);have q5:=h2.1 (xM.1 q5);have:Hq c=true:=by
   unfold Hq;simp only [xB,a_];omega
  rw [this] at hS;cases hS
theorem qw (c:BU) (h:DV c<=12000):yq prog 340 [.st c.enc] (.i (F4 c)):=by
 have hw:=jF h;have h2:=f6 KA (λa=>by unfold KA;omega) c.exts;have hl:c.exts.length<=12000:=by unfold DV at h;omega
 have c0:=WE c h;have c1:=fM c.yg hw.isu hw.Mb;have c2:=fM c.AR hw.sub hw.T6;have c3:=a1i c.exts (λx hx=>by have:=gK KA hx;have e:KA x=1+x.zJ.length+x.val.length:=rfl;unfold DV at h;omega) xE;have c4:=gq c.key (by have:=hw.kn;omega) (by have:=hw.ke;omega) (by have:=hw.kd;omega);have c5:=gX c.key.d (by have:=hw.kd;omega);rw [qE];exact an func340 U ntmps340 U (λe=>Z)
theorem WG (c:BU) (h:DV c<=12000):yq prog 306 [.st c.enc] (.i (Bc c)):=by
 have c0:=qw c h;have e:Bc c=if(c.sig.length:Int)=0 then 60 else if 512<(c.sig.length:Int) then 60 else F4 c:=by
  unfold Bc;by_cases h0:(c.sig.length:Int)=0
  ·rw [xD xE,xD h0]
  ·rw [xC xE,xC h0]
 rw [e];exact an func306 U ntmps306 U (λe=>Z)
theorem oH (b:yG) (hb:b.length<=1000000000):yq prog 203 [.bs b] (.nd (.mk 0 3 false (0::b) [])):=by
 refine an func203 U ntmps203 U (λe=>?_);refine W ?_;refine Pl 1 U ?_;refine W ?_;exact Rt U U U
instance:Cn prog 203 (type_of% @oH):=⟨@oH⟩
theorem X4 (c:BU) (kb:yG) (h:DV c<=12000) (hk:kb.length<=1000000):yq prog 202 [.st c.enc,.bs kb] (.nd (NP c kb)):=by
 have hw:=jF h;have h2:=f6 KA (λa=>by unfold KA;omega) c.exts;have hl:c.exts.length<=12000:=by unfold DV at h;omega
 have hx:∀ x∈c.exts,x.zJ.length<=12000/\x.val.length<=12000:=λx hx=>by have:=gK KA hx;have e:KA x=1+x.zJ.length+x.val.length:=rfl;unfold DV at h;omega
 have c1:=fM c.yg hw.isu hw.Mb;have c2:=fM c.AR hw.sub hw.T6;rw [<- i9] at c1 c2;have hN:NP c kb=.mk 0 16 true [] (I3 c kb++H5 c.exts):=rfl;refine an func202 U ntmps202 U (λe=>?_);refine Wp ?_;refine Xg pe U U U ?_;refine Cx U U (mg 2 yD yD) ?_;refine Wn ?_;refine Cx U U (OD 0 _) ?_;refine Wn ?_;refine Cx U U (me c.xU hw.ser) ?_;refine Wn ?_;refine Cx U U (uQ c.hash) ?_;refine Wn ?_;refine Cx U U (ni _ _) ?_;refine Wn ?_;refine Cx U U (mc (s:=JT) yD) ?_;refine Wn ?_;refine Cx U U (ni (Ay JT) (.mk 0 5 false [] [])) ?_;refine Wn ?_;refine Cx U U (oH kb xE) ?_;refine Wn ?_;refine Cx U U (ni (.mk 0 16 true [] [Ay JT,.mk 0 5 false [] []]) (.mk 0 3 false (0::kb) [])) ?_;refine Xlt kN (l:=I3 c kb) U U U U U U U U U U ?_;refine Wn ?_;refine bI U ?_;refine W ?_;refine Rn kN 14 33 U U ?_;refine Lp (γ:=Nat) (λg=>g<=c.exts.length) (λg=>c.exts.length+1-g) (λg=>[(2,.own 0 0),(4,.own 1 0),(13,.row 6),(14,.row 7),(15,.d (.i (g:Int)))])
  (λg=>[(7,.row 33 (.AX ((c.exts.take g).map C_))),(6,.row 33 (.AX (I3 c kb))),(1,.var 33 [.d (.i 0),.d (.i 0),.d (.b false),.d A1,.d A1]),(0,.B1 55 (.st c.enc))]) 0 xE y9 y9 ?_
 intro g hg;have FH:((c.exts.take g).map C_).length<=12000:=by rw [aq];have:=xY g c.exts;omega
 have hbk:(I3 c kb).length=7:=rfl;refine W ?_;refine Ci U (λg1=>?_) (λg1=>?_)
 ·have yJ:g<c.exts.length:=by omega
  have yL:c.exts.getD g default=c.exts[g]:=aU yJ;obtain⟨x1,x2⟩:=hx _ (ax yJ);rw [<- yL] at x1 x2;have c3:=np (c.exts.getD g default) xE xE;exact m203
 ·have CK:c.exts.take g=c.exts:=aD xE;rw [CK];have hle:(c.exts.map C_).length=c.exts.length:=aq ..;refine W ?_;refine Ci U (λg2=>?_) (λg2=>?_)
  ·refine W ?_;refine Rt U U ?_;rw [hN];unfold H5;rw [xC (by rintro e;rw [e] at g2;simp at g2)];rfl
  ·have e0:c.exts=[]:=xI xE;refine W ?_;exact m169
theorem Wz (c:BU) (kb:yG) (h:DV c<=12000) (hk:kb.length<=1000000):yq prog 96 [.st c.enc,.bs kb] (.nd (.mk 0 16 true [] [NP c kb,CE c.hash,.mk 0 3 false (0::c.sig) []])):=by
 have c1:=X4 c kb h hk;have hl:c.sig.length<=12000:=by unfold DV at h;omega
 refine an func96 U ntmps96 U (λe=>?_);exact m10
theorem sJ (c:BU) (h:DV c<=12000):yq prog 234 [.st c.enc] (.zZ [.nd (Aj c),.i (Bc c)]):=by
 have hw:=jF h;have c0:=WG c h;have s7:=mI hw.kn hw.ke;have c1:=Wz c (OZ c.key) h xE;have c2:=iW c.key hw.kn hw.ke hw.kd;unfold Aj;refine an func234 U ntmps234 U (λe=>?_);refine W ?_;refine Ci U (λh1=>?_) (λh1=>?_)
 ·exact m207
 ·have E_:Bc c=0:=by simpa using h1
  rw [xD E_];refine W ?_;exact Rt U U (by simp only [yR,E_];rfl)
def Lv (c:BU):yG:=if Bc c=0 then(Aj c).put.getD [] else []
theorem qL (c:BU) (h:DV c<=12000):yq prog 144 [.st c.enc] (.zZ [.bs (Lv c),.i (Bc c)]):=by
 have hs:=(Se h).2;have c1:=sJ c h;unfold Lv;refine an func144 U ntmps144 U (λe=>?_);refine W ?_;refine Ci U (λh1=>?_) (λh1=>?_)
 ·exact m207
 ·have E_:Bc c=0:=by simpa using h1
  rw [xD E_,E_];exact m10
theorem gW (c:BU) (h:DV c<=12000):yq prog 57 [.st c.enc] (.bs (Lv c)):=by
 have c1:=qL c h;refine an func57 U ntmps57 U (λe=>?_);refine W ?_;refine Ci U (λh1=>?_) (λh1=>?_)
 ·have e1:Lv c=[]:=xC h1;exact m206
 ·exact m10
theorem qD (t:Int):yq prog 331 [.i t] (.b (decide (Bj t=0))):=by
 have h:yq prog 331 [.i t] (.b (decide (-62167219200<=t)&&decide (t<=253402300799))):=an func331 U ntmps331 U (λe=>Z);rw [show(decide (-62167219200<=t)&&decide (t<=253402300799))=decide (Bj t=0) by
  rw [<- Ko];exact y7.2 (oe t).symm] at h
 exact h
instance:Cn prog 331 (type_of% @qD):=⟨@qD⟩
theorem WQ (s:List UInt32) (hs:s.length<=1000000):yq prog 332 [.ws s] (.b (HL s)):=by
 have c0:=gX s hs;have h:yq prog 332 [.ws s] (.b (decide (1<=zQ s)&&decide (zQ s<=160))):=an func332 U ntmps332 U (λe=>Z);rw [show decide (1<=zQ s)=decide (0<zQ s) from y7.2 xE] at h;exact h
theorem ZF (a b:Nat):B3 a b=-1<->0<B3 b a:=by
 unfold B3;(repeat' split)<;>omega
theorem Tm (l:Cl) (hw:IZ l<=12000):yq prog 285 [.st l.enc] (.i (Ke l)):=by
 unfold IZ at hw;have h1:=f6 Iz (λa=>by unfold Iz;omega) l.yg;have h2:=f6 KT (λa=>by unfold KT;omega) l.gone;have c1:=fM l.yg xE (λa ha=>by have:=l5 ha;omega);have hgs:∀ g∈l.gone,g.xU.length<=12000:=λg hg=>by
  have:=gK KT hg;have e:KT g=1+4*g.xU.length:=rfl;omega
 have eN:(if CW l.yg≠0 then(61:Int) else 0)=CW l.yg:=by unfold CW;split<;>simp_all
 unfold Ke;rw [eN];refine an func285 U ntmps285 U (λe=>?_);refine W ?_;refine Bg U U (λg1=>?_) (λg1=>?_)
 ·rw [xD g1];exact m10
 rw [xC g1];refine W ?_;refine Bg U U (λg2=>?_) (λg2=>?_)
 ·rw [xD (by simpa using g2)];exact m10
 rw [xC (by simpa using g2)];refine W ?_;refine Bg U U (λg3=>?_) (λg3=>?_)
 ·rw [xD (by simpa using g3)];exact m10
 rw [xC (by simpa using g3)];refine W ?_;refine Bg U U (λg4=>?_) (λg4=>?_)
 ·rw [xD g4];exact m10
 rw [xC g4];refine W ?_;refine Ci U (λg5=>?_) (λg5=>?_)
 ·rw [xD g5];exact m10
 rw [xC g5];refine W ?_;refine Lp (γ:=Nat) (λg=>g<=l.gone.length/\∀ j,j<g->Bu l.gone j=true) (λg=>l.gone.length+1-g)
  (λg=>[(1,.own 0 0),(3,.d (.i (g:Int)))]) (λ_=>[(0,.B1 59 (.st l.enc))]) 0 ⟨by omega,λj hj=>by omega⟩ y9 y9 ?_
 rintro g ⟨hg,zX⟩;refine W ?_;refine Ci U (λh3=>?_) (λh3=>?_)
 ·have yJ:g<l.gone.length:=by omega
  have yL:l.gone.getD g default=l.gone[g]:=aU yJ;have z1:=hgs _ (ax yJ);rw [<- yL] at z1;have z2:(l.gone.getD (g-1) default).xU.length<=12000:=by
   rw [aU (show g-1<l.gone.length by omega)];exact hgs _ (ax _)
  have bad:Bu l.gone g=false->EE l.gone=false:=λhb=>ah λhh=>by rw [hh g yJ] at hb;cases hb
  have cs:=WQ (l.gone.getD g default).xU xE;have cc:=uK (l.gone.getD (g-1) default).xU (l.gone.getD g default).xU xE xE;refine W ?_;refine EK 50 U (λhc q1=>?_) (λhc q1=>?_)
  ·rw [hc,xD (bad (by unfold Bu;rw [show HL (l.gone.getD g default).xU=false by simpa using hc];simp))];exact m10
  rw [hc];refine W ?_;refine EK 60 U (λBO q2=>?_) (λBO q2=>?_)
  ·rw [BO,xD (bad (by unfold Bu;rw [show decide (Bj (l.gone.getD g default).at_=0)=false by simpa using BO];rfl))];exact m10
  rw [BO];refine W ?_;have q1':HL (l.gone.getD g default).xU=true:=by simpa using hc
  have q2':decide (Bj (l.gone.getD g default).at_=0)=true:=by simpa using BO
  refine EK 63 U (λDv q3=>?_) (λDv q3=>?_)
  ·rw [Dv];have e1:((g:Int)-1).toNat=g-1:=by omega
   rw [<- e1] at cc;refine W ?_;rw [e1];have ca:=ZF (vL (l.gone.getD (g-1) default).xU) (vL (l.gone.getD g default).xU);refine Ci U (λq4=>?_) (λq4=>?_)
   ·rw [xD (bad (by unfold Bu;rw [ah (p:=0<B3 _ _) (λh=>q4 (ca.2 h)),ah (p:=g=0) xE];simp))];exact m10
   ·refine W ?_;refine⟨g+1,by omega,⟨by omega,λj hj=>?_⟩,y9,y9⟩;by_cases P7:j=g
    ·subst P7;unfold Bu;rw [q1',q2',ae (p:=0<B3 _ _) (ca.1 (by simpa using q4))];simp
    ·exact zX j xE
  ·exact m92
 ·have ok:EE l.gone=true:=ae λj hj=>zX j xE;rw [xC (by rw [ok];simp)];exact m10
theorem qz (l:Cl) (hw:IZ l<=12000):yq prog 205 [.st l.enc] (.i (Gh l)):=by
 have c0:=Tm l hw;have e:Gh l=if(l.sig.length:Int)=0 then 60 else if 512<(l.sig.length:Int) then 60 else Ke l:=by
  unfold Gh;by_cases h0:(l.sig.length:Int)=0
  ·rw [xD xE,xD h0]
  ·rw [xC xE,xC h0]
 rw [e];exact an func205 U ntmps205 U (λe=>Z)
theorem Tn (l:Cl) (hw:IZ l<=12000):yq prog 206 [.st l.enc] (.nd (Ib l)):=by
 unfold IZ at hw;have h1:=f6 Iz (λa=>by unfold Iz;omega) l.yg;have h2:=f6 KT (λa=>by unfold KT;omega) l.gone;have c1:=fM l.yg xE (λa ha=>by have:=l5 ha;omega);rw [<- i9] at c1;have hgs:∀ g∈l.gone,g.xU.length<=4096:=λg hg=>by
  have:=gK KT hg;have e:KT g=1+4*g.xU.length:=rfl;omega
 have hN:Ib l=.mk 0 16 true [] (Mn l++H4 l.gone):=rfl;refine an func206 U ntmps206 U (λe=>?_);refine Wp ?_;refine Xg pe U U U ?_;refine Cx U U (mg 1 yD yD) ?_;refine Wn ?_;refine Cx U U (uQ l.hash) ?_;refine JX.s2r U U U U U U ?_;refine JX.s2r U U U U U U ?_;refine JX.s2r U U U U U U ?_;refine Xlt kN (l:=Mn l) U U U U U U U U U U ?_;refine Wn ?_;refine bI U ?_;refine W ?_;refine Rn kN 10 33 U U ?_;refine Lp (γ:=Nat) (λg=>g<=l.gone.length) (λg=>l.gone.length+1-g) (λg=>[(1,.own 0 0),(2,.own 1 0),(9,.row 5),(10,.row 6),(11,.d (.i (g:Int)))])
  (λg=>[(6,.row 33 (.AX ((l.gone.take g).map GV))),(5,.row 33 (.AX (Mn l))),(1,.var 33 [.d (.i 0),.d (.i 0),.d (.b false),.d A1,.d A1]),(0,.B1 59 (.st l.enc))]) 0 xE y9 y9 ?_
 intro g hg;have FH:((l.gone.take g).map GV).length<=12000:=by rw [aq];have:=xY g l.gone;omega
 have hbk:(Mn l).length=5:=rfl;refine W ?_;refine Ci U (λg1=>?_) (λg1=>?_)
 ·have yJ:g<l.gone.length:=by omega
  have yL:l.gone.getD g default=l.gone[g]:=aU yJ;have z1:=hgs _ (ax yJ);rw [<- yL] at z1;have c3:=me (l.gone.getD g default).xU z1;have EW:(l.gone.take (g+1)).map GV=(l.gone.take g).map GV++[GV (l.gone.getD g default)]:=by rw [ai yJ,y8,yL];rfl
  refine W ?_;refine Kz kN U U U U U U U JA U U U ?_;refine HA U U ?_;refine bI U ?_;refine Kj 6 U U U U U ?_;refine W ?_;refine⟨g+1,by omega,by omega,y9,?_⟩;rw [EW];exact y9
 ·have CK:l.gone.take g=l.gone:=aD xE;rw [CK];have hle:(l.gone.map GV).length=l.gone.length:=aq ..;refine W ?_;refine Ci U (λg2=>?_) (λg2=>?_)
  ·refine W ?_;refine Rt U U ?_;rw [hN];unfold H4;rw [xC (by rintro e;rw [e] at g2;simp at g2)];rfl
  ·have e0:l.gone=[]:=xI xE;refine W ?_;exact m169
theorem sA (l:Cl) (h:IZ l<=12000):yq prog 98 [.st l.enc] (.zZ [.nd (Dg l),.i (Gh l)]):=by
 have c1:=Tn l h;have c2:=qz l h;have hl:l.sig.length<=12000:=by unfold IZ at h;omega
 unfold Dg;refine an func98 U ntmps98 U (λe=>?_);refine W ?_;refine Ci U (λh1=>?_) (λh1=>?_)
 ·exact m207
 ·have E_:Gh l=0:=by simpa using h1
  rw [xD E_];refine W ?_;exact Rt U U (by simp only [yR,E_])
def Ma (l:Cl):yG:=if Gh l=0 then(Dg l).put.getD [] else []
theorem qy (l:Cl) (h:IZ l<=12000):yq prog 146 [.st l.enc] (.zZ [.bs (Ma l),.i (Gh l)]):=by
 have hs:=ZJ h;have c1:=sA l h;unfold Ma;refine an func146 U ntmps146 U (λe=>?_);refine W ?_;refine Ci U (λh1=>?_) (λh1=>?_)
 ·exact m207
 ·have E_:Gh l=0:=by simpa using h1
  rw [xD E_,E_];exact m10
theorem iX (l:Cl) (h:IZ l<=12000):yq prog 60 [.st l.enc] (.bs (Ma l)):=by
 have c1:=qy l h;refine an func60 U ntmps60 U (λe=>?_);refine W ?_;refine Ci U (λh1=>?_) (λh1=>?_)
 ·have e1:Ma l=[]:=xC h1;exact m206
 ·exact m10
theorem gp (s:Sg) (hw:SgW s):yq prog 101 [.st s.enc] (.zZ [.nd (BW s),.i (Wj s)]):=by
 have Rk:=wK s hw;cases hr:z_ s with
 |false =>
  rw [hr] at Rk;refine an func101 U ntmps101 U (λe=>?_);refine W ?_;refine Rt U U ?_;simp only [yR,BW,Wj,hr];rfl
 |true =>
  rw [hr] at Rk;have c4:=lA s.signed hw.sgd hw.a4Z;have c6:=lA s.yc hw.uns hw.a4B;have c1:Tg (yq prog 194 [.sl 3 At.enc s.yg] (.zZ [.nd (AO s.yg),.i (CW s.yg)])):=⟨by
   have h:=fM s.yg hw.isu hw.Mb;rw [<- i9] at h;exact h⟩
  have res:∀ L,FL s=L->yR [.nd (.mk 0 16 true [] L),.i 0]=.zZ [.nd (BW s),.i (Wj s)]:=λL hL=>by
   simp only [yR,BW,Wj,hr,if_true,hL]
  have u0:∀ {l:List Fe},¬ 0<(l.length:Int)->l=[]:=λh=>xI xE;have hrr:=hr;simp only [z_,xB,a_] at hrr;obtain⟨⟨⟨⟨⟨r1,r2⟩,r3⟩,r4⟩,r5⟩,r6⟩:=hrr;have l4:(s.signed.map yS).length<=16:=by rw [aq];exact k_ r3
  have l6:(s.yc.map yS).length<=16:=by rw [aq];exact k_ r4
  have Mc:Tg (SgW s):=⟨hw⟩;have hr1:=Tg.mk Rk;clear hw hr Rk;refine an func101 U ntmps101 U (λe=>?_);refine W ?_;refine Ca U U hr1.k ?_;refine R3 U U ?_;refine Al.nil ?_
  repeat (first|refine JD.seq ?_|refine JD.skip ?_|refine Cqf rfl ?_|refine Cf rfl ?_)
  refine JD.region ?_;refine R3 U U ?_;refine Ca U U c1.k ?_;refine R3 U U ?_;refine Al.nil ?_
  repeat (first|refine JD.seq ?_|refine JD.skip ?_)
  refine Xg pe U U U ?_;refine Cx U U (mg 1 yD yD) ?_;refine HA U U ?_;refine Cx U U (me s.xU Mc.k.ser) ?_;refine Cx U U (ni (AO s.yg) (Bt s.xU)) ?_;refine Xlt kN (l:=[.mk 0 2 false (B2 1) [],.mk 0 16 true [] [AO s.yg,Bt s.xU]]) U U U U U U U U U U ?_;refine HA U U ?_;refine bI U ?_;refine W ?_;refine Ci U (λh2=>?_) (λh2=>?_)
  ·repeat (first|refine JD.seq ?_|refine JD.skip ?_)
   refine Xg pe U U U ?_;refine Cx U U (mg 3 yD yD) ?_;refine bm U (yi.FJ U U U) ?_;refine JX.s2r U U U U U U ?_;refine bm U (yi.FJ U U U) ?_;refine Xlt kN (l:=[.mk 0 2 false (B2 3) [],.mk 2 0 false s.Ec []]) U U U U U U U U U U ?_;refine HA U U ?_;refine bI U ?_;refine W ?_;refine Ci U (λh3=>?_) (λh3=>?_)
   ·refine W ?_;refine Ci U (λh4=>?_) (λh4=>?_)
    ·refine W ?_;refine Rt U U (res _ ?_);unfold FL BJ DH;rw [xD h2,xD h2];exact m173
    ·refine W ?_;refine Rt U U (res _ ?_);unfold FL BJ DH;rw [xD h2,xD h2];exact m187
   ·refine W ?_;refine Ci U (λh4=>?_) (λh4=>?_)
    ·refine W ?_;refine Rt U U (res _ ?_);unfold FL BJ DH;rw [xD h2,xD h2];exact m186
    ·refine W ?_;refine Rt U U (res _ ?_);unfold FL BJ DH;rw [xD h2,xD h2];rw [u0 h3,c_,u0 h4,c_];rfl
  ·refine W ?_;refine Ci U (λh3=>?_) (λh3=>?_)
   ·refine W ?_;refine Ci U (λh4=>?_) (λh4=>?_)
    ·refine W ?_;refine Rt U U (res _ ?_);unfold FL BJ DH;rw [xC h2,xC h2];exact m173
    ·refine W ?_;refine Rt U U (res _ ?_);unfold FL BJ DH;rw [xC h2,xC h2];exact m187
   ·refine W ?_;refine Ci U (λh4=>?_) (λh4=>?_)
    ·refine W ?_;refine Rt U U (res _ ?_);unfold FL BJ DH;rw [xC h2,xC h2];exact m186
    ·refine W ?_;refine Rt U U (res _ ?_);unfold FL BJ DH;rw [xC h2,xC h2];rw [u0 h3,c_,u0 h4,c_];rfl
instance:Cn prog 101 (type_of% @gp):=⟨@gp⟩
def sbR (s:Sg):yG:=if Wj s≠0 then [] else(BW s).put.getD []
theorem jY (s:Sg) (h:MV s<=12000):yq prog 62 [.st s.enc] (.bs (sbR s)):=by
 have hz:=Om h;have hc:=gp s (qk h);have hb:=kh (BW s) xE;unfold sbR;exact an func62 U ntmps62 U (λe=>Z)
instance:Cn prog 62 (type_of% @jY):=⟨@jY⟩
instance:Cn prog 57 (type_of% @gW):=⟨@gW⟩
instance:Cn prog 60 (type_of% @iX):=⟨@iX⟩
theorem uP (s:Sd) (h:SdW s):yq prog 43 [.st s.enc] (.zZ [.sl 1 bE (s.yj.map Lv),.sl 1 bE (s.crls.map Ma),.sl 1 bE (s.signers.map sbR)]):=by
 obtain⟨b1,b2,b3,b4,b5,b6,b7,b8⟩:=h;refine an func43 U ntmps43 U (λe=>?_);refine W ?_;refine Rn (kS 1 bE) 5 22 U U ?_;refine Lp (γ:=Nat) (λg=>g<=s.yj.length) (λg=>s.yj.length+1-g) (λg=>[(1,.own 0 0),(5,.row 1),(6,.d A1),(7,.d A1),(8,.d (.i (g:Int)))]) (λg=>[(1,.row 22 (.sl 1 bE ((s.yj.take g).map Lv))),(0,.B1 28 (.st s.enc))]) 0 (yQ _) y9 y9 ?_;intro g hg;have FH:((s.yj.take g).map Lv).length<=20000:=by rw [aq];have:=xY g s.yj;omega
 refine W ?_;refine Ci U (λh3=>?_) (λh3=>?_)
 ·have yJ:g<s.yj.length:=by omega
  have yL:s.yj.getD g default=s.yj[g]:=aU yJ;have c3:=gW (s.yj.getD g default) (by rw [yL];exact b4 _ (ax _));have EW:(s.yj.take (g+1)).map Lv=(s.yj.take g).map Lv++[Lv (s.yj.getD g default)]:=by rw [ai yJ,y8,yL];rfl
  refine W ?_;refine⟨g+1,by omega,by omega,y9,?_⟩;rw [EW];exact y9
 have CK:g=s.yj.length:=by omega
 subst CK;rw [xK];clear h3 hg FH;refine W ?_;refine Rn (kS 1 bE) 6 22 U U ?_;refine Lp (γ:=Nat) (λg=>g<=s.crls.length) (λg=>s.crls.length+1-g) (λg=>[(1,.own 0 0),(5,.row 1),(6,.row 2),(7,.d A1),(10,.d (.i (g:Int)))]) (λg=>[(2,.row 22 (.sl 1 bE ((s.crls.take g).map Ma))),(1,.row 22 (.sl 1 bE (s.yj.map Lv))),(0,.B1 28 (.st s.enc))]) 0 (yQ _) y9 y9 ?_;intro g hg;have FH:((s.crls.take g).map Ma).length<=20000:=by rw [aq];have:=xY g s.crls;omega
 refine W ?_;refine Ci U (λh3=>?_) (λh3=>?_)
 ·have yJ:g<s.crls.length:=by omega
  have yL:s.crls.getD g default=s.crls[g]:=aU yJ;have c3:=iX (s.crls.getD g default) (by rw [yL];exact b6 _ (ax _));have EW:(s.crls.take (g+1)).map Ma=(s.crls.take g).map Ma++[Ma (s.crls.getD g default)]:=by rw [ai yJ,y8,yL];rfl
  refine W ?_;refine⟨g+1,by omega,by omega,y9,?_⟩;rw [EW];exact y9
 have CK:g=s.crls.length:=by omega
 subst CK;rw [xK];clear h3 hg FH;refine W ?_;refine Rn (kS 1 bE) 7 22 U U ?_;refine Lp (γ:=Nat) (λg=>g<=s.signers.length) (λg=>s.signers.length+1-g) (λg=>[(1,.own 0 0),(5,.row 1),(6,.row 2),(7,.row 3),(12,.d (.i (g:Int)))]) (λg=>[(3,.row 22 (.sl 1 bE ((s.signers.take g).map sbR))),(1,.row 22 (.sl 1 bE (s.yj.map Lv))),(2,.row 22 (.sl 1 bE (s.crls.map Ma))),(0,.B1 28 (.st s.enc))]) 0 (yQ _) y9 y9 ?_;intro g hg;have FH:((s.signers.take g).map sbR).length<=20000:=by rw [aq];have:=xY g s.signers;omega
 refine W ?_;refine Ci U (λh3=>?_) (λh3=>?_)
 ·have yJ:g<s.signers.length:=by omega
  have yL:s.signers.getD g default=s.signers[g]:=aU yJ;have c3:=jY (s.signers.getD g default) (by rw [yL];exact b8 _ (ax _));have EW:(s.signers.take (g+1)).map sbR=(s.signers.take g).map sbR++[sbR (s.signers.getD g default)]:=by rw [ai yJ,y8,yL];rfl
  refine W ?_;refine⟨g+1,by omega,by omega,y9,?_⟩;rw [EW];exact y9
 have CK:g=s.signers.length:=by omega
 subst CK;rw [xK];clear h3 hg FH;exact m10
instance:Cn prog 43 (type_of% @uP):=⟨@uP⟩
theorem a5a {α:Type}(f:α->Nd) {B:Nat}{l:List α}(h:∀ x∈l,(f x).rk<=B):Nd.CO (l.map f)<=B:=Hv λk hk=>by
 obtain⟨x,hx,rfl⟩:=y'.1 hk;exact h x hx
theorem a5N (s:yG):(Ay s).rk=1:=by unfold Ay;first|rfl|simp [Nd.rk,Nd.CO]|(split<;>simp [Nd.rk,Nd.CO])
theorem mY (b:yG):(Nd.mk 0 3 false (0::b) []).put.isSome=true:=by
 refine iq yD ?_;rw [qd rfl];unfold DM;have h0:xF (0::b) 0=0:=rfl;refine ae ⟨?_,.inl h0⟩;rw [h0];simp
theorem vF {x:Xt}:EN x=0<->(Ai x.zJ).isSome=true/\x.val.length<=2000:=by
 unfold EN;split
 ·rename_i h;rw [xB,a_] at h;exact⟨λ_=>h,λ_=>rfl⟩
 ·rename_i h;rw [xB,a_] at h;exact⟨λhh=>by omega,λhh=>absurd hh h⟩
theorem mA (b:yG):(Nd.mk 0 4 false b []).put.isSome=true:=iq yD U
theorem Z9 {x:Xt}(h:EN x=0):(C_ x).put.isSome=true:=by
 obtain⟨h1,h2⟩:=vF.1 h;have hb:(Nd.mk 0 1 false [255] []).put.isSome=true:=by kernel_rfl
 unfold C_;rw [xD (by rw [h1,ae h2];rfl)];split
 ·rw [dx];simp only [ya,zf,gx h1,hb,mA,yO]
 ·rw [dx];simp only [ya,zf,gx h1,mA,yO]
theorem pH:∀ {seen:List yG}{l:List Xt},GG seen l=true->∀ x∈l,EN x=0
 |_,[],_,x,hx=>by cases hx
 |seen,y::r,h,x,hx=>by
  unfold GG at h;split at h
  ·cases h
  ·rename_i h1;split at h
   ·cases h
   ·split at h
    ·rcases zE.1 hx with rfl|hx
     ·exact zg.1 h1
     ·exact pH h x hx
    ·cases h
theorem r_ (n:List UInt32):(Bt n).put.isSome=true:=by
 obtain⟨t,ht⟩:=lG n;rw [ht];rfl
theorem ZB (hT:∀ t,Bj t=0->(AM t).put.isSome=true) {c:BU}(h:Bc c=0):(Aj c).put.isSome=true:=by
 have hN:Aj c=_:=xD h;rw [hN];unfold Bc at h;split at h
 ·omega
 split at h
 ·omega
 unfold F4 at h;split at h
 ·omega
 split at h
 ·omega
 split at h
 ·omega
 split at h
 ·omega
 split at h
 ·omega
 split at h
 ·omega
 split at h
 ·omega
 split at h
 ·omega
 split at h
 ·omega
 split at h
 ·omega
 rename_i q1 q2 q3 q4 q5 q6 q7 q8 q9 q10 q11 q12;have hh:=gR q5;have hx:∀ x∈c.exts,EN x=0:=by
  have:D8 c.exts=true:=by cases hb:D8 c.exts<;>simp_all
  unfold D8 at this;rw [xB] at this;exact pH this.1
 have i2:=tp 2 yD yD;have p1:=pY hh;have p2:=jp (dX.1 (zg.1 q8));have p3:=jp (dX.1 (zg.1 q9));have p4:=hT c.O8 (zg.1 q6);have p5:=hT c.NX (zg.1 q7);have p6:(Ay JT).put.isSome=true:=gx cq;have p7:(Nd.mk 0 5 false [] []).put.isSome=true:=by kernel_rfl
 have p8:(H5 c.exts).all (·.put.isSome)=true:=by
  unfold H5;split
  ·rfl
  ·simp only [ya,zf,tL (show(0:Int)<=3/\(3:Int)<=30 by decide),dx,yO,zp,xH];intro x hxm;exact Z9 (hx x hxm)
 rw [dx];simp only [ya,zf,p1,mY,F_,NP,I3,dx,yr,p8,r_,p2,p3,p4,p5,p6,p7,tL (show(0:Int)<=0/\(0:Int)<=30 by decide),i2,yO]
theorem a36 (hT:∀ t,Bj t=0->(AM t).put.isSome=true) {l:Cl}(h:Gh l=0):(Dg l).put.isSome=true:=by
 have hN:Dg l=_:=xD h;rw [hN];unfold Gh at h;split at h
 ·omega
 split at h
 ·omega
 unfold Ke at h;split at h
 ·omega
 split at h
 ·omega
 split at h
 ·omega
 split at h
 ·omega
 split at h
 ·omega
 split at h
 ·omega
 split at h
 ·omega
 rename_i q1 q2 q3 q4 q5 q6 q7 q8 q9;have hh:=gR q3;have hg:EE l.gone=true:=by cases hb:EE l.gone<;>simp_all
 have i1:=tp 1 yD yD;have p1:=pY hh;have p2:=jp (dX.1 (zg.1 q9));have p4:=hT l.this (zg.1 q4);have p5:=hT l.next (zg.1 q5);have p8:(H4 l.gone).all (·.put.isSome)=true:=by
  unfold H4;split
  ·rfl
  ·simp only [ya,zf,dx,yO,zp,xH];intro g YG;obtain⟨i,hi,rfl⟩:=BB YG;have ha:=xV hg i hi;unfold Bu at ha;rw [aU hi,xB,xB,a_] at ha;show(GV l.gone[i]).put.isSome=true;unfold GV;rw [dx];simp only [ya,zf,r_,hT _ ha.1.1,yO]
 rw [dx];simp only [ya,zf,p1,mY,Ib,Mn,dx,yr,p8,p2,p4,p5,i1,yO]
theorem TE {s:yG}(h:(Ai s).isSome=true):zG (Ay s)=(s,true):=by
 obtain⟨b,hb⟩:=yE.1 h;have hi:Dq (Ay s) 6=true:=by unfold Dq;rw [gx h];simp [Ay,Fb,FQ]
 have ho:(Ay s).bytes=b:=by simp [Ay,HD,hb]
 unfold zG;rw [xD hi,ho,sW hb];rfl
theorem oR {s:yG}(h:(Ai s).isSome=true):(AK (Ay s).bytes)=some s:=by
 obtain⟨b,hb⟩:=yE.1 h;rw [show(Ay s).bytes=b by simp [Ay,HD,hb],sW hb]
theorem a9A {a:At}(h:Ax a=true):atR (Jc a)=a:=by
 have h1:(Ai a.zJ).isSome=true:=by
  unfold Ax at h;split at h
  ·rename_i h2;rw [xB] at h2;exact h2.1
  ·cases h
 have k:atR (Jc a)=⟨(AK (Ay a.zJ).bytes).getD [],a.kind,a.text⟩:=rfl;rw [k,oR h1];rfl
theorem lH {l:List At}(h:C9 l=true):nameOf (AO l)=(l,true):=by
 have hB:=h;unfold C9 at hB;rw [xB,a_] at hB;have e:nmR (ED l)=l:=by
  unfold nmR ED;rw [xD h];show((l.map Jc).take 20).map atR=l;rw [aD (by rw [aq];omega),yv];conv=>rhs;rw [<- Ag l]
  exact xO λa ha=>a9A (xH.1 hB.2 a ha)
 rw [j5,i9];unfold HT;rw [e,xD];rw [ae (dX.2 h),(Nd.beq_eq _ _ _ (aB _)).2 rfl];rfl
theorem vh {n:Nd}(h:(nameOf n).2=true):CW (nameOf n).1=0/\AO (nameOf n).1=n:=by
 refine⟨?_,i7 h⟩;rw [j5] at h |-
 unfold HT at h |-
 split at h
 ·rename_i hk;rw [xD hk];rw [xB,a_] at hk;exact hk.1
 ·cases h
theorem vG {x:Xt}(h:EN x=0):Bk (C_ x)=(x,true):=by
 obtain⟨h1,h2⟩:=vF.1 h;have o:=TE h1;have p4:Dq (.mk 0 4 false x.val []) 4=true:=by unfold Dq;rw [mA];rfl
 have p1:Dq (.mk 0 1 false [255] []) 1=true:=by kernel_rfl
 have p5:decide (2000<(x.val.length:Int))=false:=ah xE;unfold C_;rw [xD (by rw [h1,ae h2];rfl)];obtain⟨xo,xc,xv⟩:=x;cases xc with
 |false =>
  rw [xC (by simp)];unfold Bk;rw [show Hd (.mk 0 16 true [] [Ay xo,.mk 0 4 false xv []])=.mk 0 4 false xv [] from rfl,show kd (.mk 0 16 true [] [Ay xo,.mk 0 4 false xv []]) 0=Ay xo from rfl,o,p4];rw [xD]
  ·rfl
  ·simp [xR,Fb,FQ,HS,HD,Fs];exact p5
 |true =>
  rw [xD rfl];unfold Bk;rw [show Hd (.mk 0 16 true [] [Ay xo,.mk 0 1 false [255] [],.mk 0 4 false xv []])=.mk 0 4 false xv [] from rfl,show kd (.mk 0 16 true [] [Ay xo,.mk 0 1 false [255] [],.mk 0 4 false xv []]) 0=Ay xo from rfl,
   show kd (.mk 0 16 true [] [Ay xo,.mk 0 1 false [255] [],.mk 0 4 false xv []]) 1=.mk 0 1 false [255] [] from rfl,o,p4,p1]
  rw [xD]
  ·rfl
  ·simp [xR,Fb,FQ,HS,HD,Fs];exact p5
theorem Ui {n:Nd}(h:(Bk n).2=true):C_ (Bk n).1=n/\EN (Bk n).1=0:=by
 unfold Bk at h |-
 split at h
 ·rename_i hc;rw [xD hc];simp only [xB,yu,yN,xL,a_] at hc;obtain⟨⟨⟨⟨⟨c1,c2⟩,c3⟩,c4⟩,c5⟩,c6⟩:=hc;obtain⟨o1,o2,o3⟩:=dW c3;have l4:=mM c4 yD;simp only [xR,xB,a_] at c1;obtain⟨⟨⟨⟨q1,q2⟩,q3⟩,q4⟩,q5⟩:=c1;have hE:EN ⟨(zG (kd n 0)).1,decide ((n.kids.length:Int)=3),(Hd n).bytes⟩=0:=vF.2 ⟨o3,by show(Hd n).bytes.length<=2000;omega⟩;refine⟨?_,hE⟩;obtain⟨h1,h2⟩:=vF.1 hE;unfold C_;rw [xD (by rw [h1,ae h2];rfl)];simp only;rw [o1,<- l4];obtain⟨c,t,k,b,ks⟩:=n;simp only [Fb,FQ,HS,HD,Fs] at *;have hb:b=[]:=xI xE;subst q1 q2 q3 hb
  match ks,q4,q5 with
  |[x,y],_,_=>rfl
  |[x,w,y],_,_ =>
   rcases c6 with c6|⟨c7,c8⟩
   ·exact absurd U c6
   ·have hw:=mM c7 yD;have hl:=wb (eO c7 yD).2.2;have e:kd (.mk 0 16 true [] [x,w,y]) 1=w:=rfl;rw [e] at hw hl c8;obtain⟨b0,GF⟩:=List.length_eq_one_iff.1 hl;rw [GF] at hw c8;have:b0=255:=zh.1 (by
     have h9:(b0.toNat:Int)=255:=by simpa using c8
     show b0.toNat=255;omega)
    subst this;show Nd.mk 0 16 true [] [x,.mk 0 1 false [255] [],y]=_;rw [<- hw]
  |[],q4,_=>simp at q4
  |[_],q4,_=>simp at q4
  |_::_::_::_::_,_,q5=>simp at q5;omega
 ·cases h
theorem je {m:Nd}(h:CA m=true):m=.mk 0 3 false (0::m.bytes.drop 1) []:=by
 unfold CA at h;rw [xB,a_] at h;have hm:=mM h.1 yD;have hv:=(eO h.1 yD).2.2;rw [qd rfl] at hv;unfold DM at hv;have h0:=(xV hv).1;have h2:=h.2;generalize m.bytes=b at *;cases b with
 |nil=>exact absurd (.inl U) h0
 |cons x r =>
  have:x=0:=zh.1 (by simpa using h2);subst this;exact hm
theorem nT (b:yG):CA (.mk 0 3 false (0::b) [])=true:=by
 unfold CA Dq;rw [mY];rfl
def JY (k:Ky):Nd:=.mk 0 16 true [] [.mk 0 16 true [] [Ay JT,.mk 0 5 false [] []],.mk 0 3 false (0::OZ k) []]
theorem R9 {k:Ky}(hd:vL k.d=0):P0 k=GA (vL k.n) (vL k.e) 0:=by show GA _ _ _=_;rw [hd]
theorem Yf {k:Ky}(h:P0 k=true) (hd:vL k.d=0) (h1:k.n.length<=4096) (h2:k.e.length<=4096):KP (JY k)=true/\Es (JY k)=(⟨CV (vL k.n),CV (vL k.e),[]⟩,0):=by
 have hL:OZ k=(Bw k.n k.e).put.getD []:=xD h;have hwr:=pA h1 h2;have V6:xN (OZ k)=(Bw k.n k.e,0,0):=by
  have:=gu (x:=Bw k.n k.e) (by rw [hwr]);rwa [hwr,<- hL] at this
 obtain⟨a1,a2,_⟩:=cU k.n;obtain⟨b1,b2,_⟩:=cU k.e;rw [gk] at a2 b2;constructor
 ·unfold KP;rw [show Ft (JY k)=.mk 0 3 false (0::OZ k) [] from rfl,nT];have:(xR (JY k) 2 2&&xR (Fu (JY k)) 2 2&&Dq (Ft (Fu (JY k))) 5&&decide ((zG (Fu (Fu (JY k)))).1=N8))=true:=by kernel_rfl
  rw [this];rfl
 ·unfold Es;rw [show(Ft (JY k)).bytes.drop 1=OZ k from rfl,V6];unfold Nf;have k0:(Bw k.n k.e).kids.getD 0 (.mk 0 0 false [] [])=Bt k.n:=rfl;have k1:(Bw k.n k.e).kids.getD 1 (.mk 0 0 false [] [])=Bt k.e:=rfl;simp only [k0,k1];rw [xD ⟨trivial,U,U,U,U,U⟩,xD ⟨a1,b1⟩,a2,b2,xD];rw [R9 (k:=⟨_,_,[]⟩) rfl];simp only [gL];rw [<- R9 hd];exact h
theorem TR {n:Nd}(hp:n.put.isSome=true) (h:KP n=true) (hq:(Es n).2=0):P0 (Es n).1=true/\(Es n).1.d=[]/\n=JY (Es n).1:=by
 unfold KP at h;simp only [xB,a_] at h;obtain⟨⟨⟨⟨h1,h2⟩,h3⟩,h4⟩,h5⟩:=h;have hN:=dM h1 hp;have p0:(Fu n).put.isSome=true:=bV hp _ (by rw [hN];simp [Fs,Fu,kd]);have hN0:=dM h2 p0;have hb:=je h5;have ho:=(dW (n:=Fu (Fu n)) (oU (by rw [h4];decide))).1;rw [h4] at ho;have NF:=mM h3 yD;have hv:=(eO h3 yD).2.2;rw [u6 U,a_] at hv;rw [xI hv] at NF;unfold Es at hq |-
 generalize hB:(Ft n).bytes.drop 1=B at *;unfold Nf at hq |-
 split at hq
 ·rename_i c1;rw [xD c1];split at hq
  ·rename_i c2;rw [xD c2];split at hq
   ·rename_i c3;rw [xD c3];obtain⟨r0,r1,r2,r3,r4,r5⟩:=c1;have hw:=wO r0;have Yw:(xN B).1.put=some B:=by rw [lY (by rw [hw]),hw]
    generalize (xN B).1=M at *;have e0:=i6 c2.1 r4;have e1:=i6 c2.2 r5;have hs:=fT (n:=M) (by rw [Yw];rfl) r1 r2 yD;have hM:M=Bw (M.kids.getD 0 (.mk 0 0 false [] [])).BE (M.kids.getD 1 (.mk 0 0 false [] [])).BE:=by
     unfold Bw;rw [e0,e1];obtain⟨c,t,k,b,ks⟩:=M;simp only [Fb,FQ,HS,HD,Fs] at *;obtain⟨rfl,rfl⟩:=hs;subst r1 r2
     match ks,r3 with
     |[a,b],_=>rfl
    have hkl:OZ ⟨(M.kids.getD 0 (.mk 0 0 false [] [])).BE,(M.kids.getD 1 (.mk 0 0 false [] [])).BE,[]⟩=B:=by
     show HU _ _ _=B;unfold HU;rw [xD c3];show((Bw (M.kids.getD 0 (.mk 0 0 false [] [])).BE (M.kids.getD 1 (.mk 0 0 false [] [])).BE).put).getD []=B;rw [<- hM,Yw];rfl
    refine⟨c3,U,?_⟩;unfold JY;rw [hkl,<- hb,hN,show kd n 0=Fu n from rfl,show kd n 1=Ft n from rfl];congr 2;rw [hN0];congr 2
    ·exact ho.symm
    ·congr 1
   ·omega
  ·omega
 ·omega
theorem mV {x:Nd}{t:Int}(hp:x.put.isSome=true) (h1:x.cls=2) (h2:x.tag=t) (h3:(x.kids.length:Int)=1):x=.mk 2 t true [] [kd x 0]:=by
 have hs:=dn hp;obtain⟨c,t',k,b,ks⟩:=x;simp only [Fb,FQ,HS,HD,Fs] at *;subst h1 h2
 match ks,h3 with
 |[y],_ =>
  cases k with
  |true=>rw [hs.1 rfl];rfl
  |false=>have:=hs.2 U;cases this
theorem SU {l:LN}(hl:(l.length:Int)<=1) (hp:∀ k∈l,k.put.isSome=true) (h:GZ l=true):H5 (Ff l)=l:=by
 match l,hl with
 |[],_=>rfl
 |[x],_ =>
  simp only [GZ,xB,a_] at h;obtain⟨⟨⟨⟨h1,h2⟩,h3⟩,h4⟩,h5⟩:=h;have px:=hp x (by simp);have hx:=mV px h1 h2 h3;obtain⟨hy,h6,h7⟩:=dB h4 (bV px _ (by rw [hx];simp [Fs,kd]));have hm:(Ff [x]).map C_=FF x:=by
   show((FF x).map λk=>(Bk k).1).map C_=FF x;rw [yv];conv=>rhs;rw [<- Ag (FF x)]
   exact xO λk hk=>(Ui (xH.1 h5 k hk)).1
  have D5:Ff [x]≠[]:=λe=>by
   have:(FF x).length=0:=by rw [<- hm,e];rfl
   have h8:((FF x).length:Int)>=1:=h6;omega
  unfold H5;rw [xC D5,hm];conv=>rhs;rw [hx]
  rw [show kd x 0=.mk 0 16 true [] (FF x) from hy]
 |_::_::_,hl=>simp at hl;omega
theorem Vy {l:List Xt}(h:∀ x∈l,EN x=0) (hl:(l.length:Int)<=32):GZ (H5 l)=true/\Ff (H5 l)=l:=by
 unfold H5;split
 ·rename_i e;subst e;exact⟨U,U⟩
 ·rename_i D5;have Md:0<l.length:=As.2 D5;have e1:FF (.mk 2 3 true [] [.mk 0 16 true [] (l.map C_)])=l.map C_:=rfl;constructor
  ·simp only [GZ,e1,zp,xB,a_];refine⟨⟨⟨⟨U,U⟩,U⟩,?_⟩,xH.2 λx hx=>?_⟩
   ·show xR (.mk 0 16 true [] (l.map C_)) 1 32=true;simp only [xR,Fb,FQ,HS,Fs,aq,xB,a_];exact⟨⟨⟨⟨trivial,trivial⟩,trivial⟩,by omega⟩,hl⟩
   ·show(Bk (C_ x)).2=true;rw [vG (h x hx)]
  ·show(l.map C_).map (λk=>(Bk k).1)=l;rw [yv];conv=>rhs;rw [<- Ag l]
   exact xO λx hx=>by show(Bk (C_ x)).1=x;rw [vG (h x hx)]
theorem a2G {l:List Xt}(h:D8 l=true):(∀ x∈l,EN x=0)/\(l.length:Int)<=32:=by
 unfold D8 at h;rw [xB,a_] at h;exact⟨pH h.1,h.2⟩
theorem size_pos {h:Int}(k:AN h):A6 h≠0:=by
 unfold A6;rw [xD k];unfold AN at k;omega
theorem mW {n:Nd}(h:AV n=true) (hx:I0 n=0):Bc (I1 n)=0/\Aj (I1 n)=n:=by
 simp only [AV,EH,xB,a_] at h;obtain⟨⟨⟨⟨⟨⟨⟨⟨⟨⟨⟨⟨h1,h2⟩,h3⟩,h4⟩,⟨⟨⟨a1,a2⟩,a3⟩,a4⟩⟩,h6⟩,⟨⟨⟨b1,b2⟩,b3⟩,b4⟩⟩,h8⟩,⟨h9,K2⟩⟩,Vd⟩,h12⟩,h13⟩,h14⟩:=h;unfold I0 at hx;split at hx
 rotate_left
 ·omega
 rename_i HX;split at hx
 rotate_left
 ·omega
 rename_i hxo;obtain⟨hn,n1,n2⟩:=dB h2 h1;have Dj:=bV h1;obtain⟨x0,x1,x2,e0⟩:∃ a b c,n.kids=[a,b,c]:=by
  match hh:n.kids,n1,n2 with
  |[a,b,c],_,_=>exact⟨a,b,c,U⟩
  |[],n1,_=>simp at n1
  |[_],n1,_=>simp at n1
  |[_,_],n1,_=>simp at n1
  |_::_::_::_::_,_,n2=>simp at n2;omega
 have k0:kd n 0=x0:=by simp [kd,e0]
 have k1:kd n 1=x1:=by simp [kd,e0]
 have k2:kd n 2=x2:=by simp [kd,e0]
 have p0:x0.put.isSome=true:=Dj x0 (by simp [e0]);unfold bk at *;rw [k0] at h3;obtain⟨hb,m1,m2⟩:=dB h3 p0;have pk:=bV p0;obtain⟨y0,y1,y2,y3,y4,y5,y6,r,e1⟩:∃ y0 y1 y2 y3 y4 y5 y6 r,x0.kids=y0::y1::y2::y3::y4::y5::y6::r:=by
  match hh:x0.kids,m1 with
  |y0::y1::y2::y3::y4::y5::y6::r,_=>exact⟨y0,y1,y2,y3,y4,y5,y6,r,U⟩
  |[],m1=>simp at m1
  |[_],m1=>simp at m1
  |[_,_],m1=>simp at m1
  |[_,_,_],m1=>simp at m1
  |[_,_,_,_],m1=>simp at m1
  |[_,_,_,_,_],m1=>simp at m1
  |[_,_,_,_,_,_],m1=>simp at m1
 have hT:F9 n=r:=by unfold F9;rw [k0,e1];rfl
 have hr:(r.length:Int)<=1:=by rw [e1] at m2;simp at m2;omega
 have g0:kd (kd n 0) 0=y0:=by rw [k0];simp [kd,e1]
 have g1:kd (kd n 0) 1=y1:=by rw [k0];simp [kd,e1]
 have g2:kd (kd n 0) 2=y2:=by rw [k0];simp [kd,e1]
 have g3:kd (kd n 0) 3=y3:=by rw [k0];simp [kd,e1]
 have g4:kd (kd n 0) 4=y4:=by rw [k0];simp [kd,e1]
 have g5:kd (kd n 0) 5=y5:=by rw [k0];simp [kd,e1]
 have g6:kd (kd n 0) 6=y6:=by rw [k0];simp [kd,e1]
 have hV:I1 n=⟨y1.BE,Ao y2,(nameOf y3).1,(nameOf y5).1,(zC (kd y4 0)).1,(zC (kd y4 1)).1,(Es y6).1,Ff r,x2.bytes.drop 1⟩:=by
  unfold I1 bk;rw [g1,g2,g3,g4,g5,g6,hT,k2]
 rw [hT] at hxo h13;rw [g0] at h4;rw [g1] at a1 a2 a3 a4;rw [g2] at b1 b2;rw [k1] at b2;rw [k2] at h6 b3 b4;rw [g3] at h8;rw [g5] at h9;rw [g4] at K2 Vd h12;rw [g6] at h14 HX;rw [hV];obtain⟨ho,hs⟩:=fi b1;obtain⟨n3,n4⟩:=vh h8;obtain⟨n5,n6⟩:=vh h9;obtain⟨t1,t2⟩:=fQ Vd;obtain⟨t3,t4⟩:=fQ h12;obtain⟨q1,q2,q3⟩:=TR (pk y6 (by simp [e1])) h14 HX;have q4:¬ 0<zQ (Es y6).1.d:=by rw [q2];show ¬ 0<zQ [];decide
 have hE:Bc ⟨y1.BE,Ao y2,(nameOf y3).1,(nameOf y5).1,(zC (kd y4 0)).1,(zC (kd y4 1)).1,(Es y6).1,Ff r,x2.bytes.drop 1⟩=0:=by
  unfold Bc F4;simp only;rw [xC xE,xC xE,xC xE,xC xE,xC (size_pos hs),xC (λhh=>hh t1),xC (λhh=>hh t3),xC (λhh=>hh n3),xC (λhh=>hh n5),xC (by rw [q1];simp),xC q4,xC (by rw [hxo];simp)]
 refine⟨hE,?_⟩;unfold Aj;rw [xD hE];unfold F_ NP I3;simp only;have hy0:y0=.mk 2 0 true [] [.mk 0 2 false (B2 2) []]:=by
  simp only [KC,xB,a_] at h4;obtain⟨⟨⟨⟨v1,v2⟩,v3⟩,v4⟩,v5⟩:=h4;have:=mV (pk y0 (by simp [e1])) v1 v2 v3;rw [this,mM v4 yD,v5];congr 3
 have hy6:Nd.mk 0 16 true [] [.mk 0 16 true [] [Ay JT,.mk 0 5 false [] []],.mk 0 3 false (0::OZ (Es y6).1) []]=y6:=q3.symm;rw [i6 a1 a2,ho,n4,n6,t2,t4,hy6,SU hr (λk hk=>pk k (by simp [e1,hk])) h13,<- hy0,<- dM K2 (pk y4 (by simp [e1])),<- je h6];rw [hn,e0];congr 2
 ·rw [hb,e1];rfl
 ·have hx1:y2=x1:=by
   rw [<- ho,<- b2];exact(fi (by rw [b2];exact b1)).1
  rw [hx1]
def G0 (c:BU):BU:={ c with xU:=CV (vL c.xU),key:=⟨CV (vL c.key.n),CV (vL c.key.e),[]⟩ }
theorem pQ {c:BU}(h:Bc c=0) (h1:c.key.n.length<=4096) (h2:c.key.e.length<=4096):AV (Aj c)=true/\I0 (Aj c)=0/\I1 (Aj c)=G0 c:=by
 have hp:=ZB hT h;have hN:Aj c=_:=xD h;unfold Bc at h;split at h
 ·omega
 split at h
 ·omega
 unfold F4 at h;split at h
 ·omega
 split at h
 ·omega
 split at h
 ·omega
 split at h
 ·omega
 split at h
 ·omega
 split at h
 ·omega
 split at h
 ·omega
 split at h
 ·omega
 split at h
 ·omega
 split at h
 ·omega
 rename_i q1 q2 q3 q4 q5 q6 q7 q8 q9 q10 q11 q12;have hh:=gR q5;obtain⟨x1,x2⟩:=a2G (l:=c.exts) (by cases hb:D8 c.exts<;>simp_all);obtain⟨x3,x4⟩:=Vy x1 x2;have hd:vL c.key.d=0:=by
  have:bl (vL c.key.d)=0:=by
   have h0:¬ 0<((D6 (d32 c.key.d) c.key.d.length:Nat):Int):=q11;rw [cT] at h0;omega
  exact Nat.eq_zero_of_not_pos λhh=>by have:=(wh _ hh).2;omega
 obtain⟨y1,y2⟩:=Yf (k:=c.key) (by cases hb:P0 c.key<;>simp_all) hd h1 h2;obtain⟨a1,a2,_⟩:=cU c.xU;rw [gk] at a2;have nb:zQ (CV (vL c.xU))=zQ c.xU:=by unfold zQ;rw [cT,cT,gL]
 have o1:=fj hh;have t1:=gO (t:=c.O8) (zg.1 q6);have t2:=gO (t:=c.NX) (zg.1 q7);have n1:=lH (dX.1 (zg.1 q8));have n2:=lH (dX.1 (zg.1 q9));have g0:kd (Aj c) 0=F_ c:=by rw [hN];rfl
 have g1:kd (Aj c) 1=CE c.hash:=by rw [hN];rfl
 have g2:kd (Aj c) 2=.mk 0 3 false (0::c.sig) []:=by rw [hN];rfl
 have hTT:F9 (Aj c)=H5 c.exts:=by unfold F9;rw [g0];rfl
 have b0:kd (F_ c) 0=.mk 2 0 true [] [.mk 0 2 false (B2 2) []]:=rfl;have b1:kd (F_ c) 1=Bt c.xU:=rfl;have b2:kd (F_ c) 2=CE c.hash:=rfl;have b3:kd (F_ c) 3=AO c.yg:=rfl;have b4:kd (F_ c) 4=.mk 0 16 true [] [AM c.O8,AM c.NX]:=rfl;have b5:kd (F_ c) 5=AO c.AR:=rfl;have b6:kd (F_ c) 6=JY c.key:=rfl;have b40:kd (.mk 0 16 true [] [AM c.O8,AM c.NX]) 0=AM c.O8:=rfl;have b41:kd (.mk 0 16 true [] [AM c.O8,AM c.NX]) 1=AM c.NX:=rfl;have hq:xR (Aj c) 3 3=true:=by rw [hN];rfl
 have hq2:xR (F_ c) 7 8=true:=by
  unfold F_ NP H5 I3;split<;>rfl
 have hv:KC (.mk 2 0 true [] [.mk 0 2 false (B2 2) []])=true:=by kernel_rfl
 have hq4:xR (.mk 0 16 true [] [AM c.O8,AM c.NX]) 2 2=true:=rfl;refine⟨?_,?_,?_⟩
 ·unfold AV EH bk;rw [hp,hq,g0,g1,g2,hTT,b0,b1,b2,b3,b4,b5,b6,b40,b41,hq2,hv,a1,a2,nb,nT,o1,n1,n2,t1,t2,hq4,x3,y1];have s1:decide (0<zQ c.xU)=true:=by
   refine ae ?_;have:0<=zQ c.xU:=by unfold zQ;omega
   omega
  have s2:decide (zQ c.xU<=160)=true:=ae xE;have s3:decide (c.hash≠0)=true:=ae (jS hh);have s4:decide (1<=((((Nd.mk 0 3 false (0::c.sig) []).bytes).drop 1).length:Int))=true:=ae (by show 1<=(c.sig.length:Int);omega);have s5:decide (((((Nd.mk 0 3 false (0::c.sig) []).bytes).drop 1).length:Int)<=512)=true:=ae (by show(c.sig.length:Int)<=512;omega);have s6:decide (c.hash=c.hash)=true:=ae U;have s7:decide ((Bt c.xU).tag=2)=true:=rfl;rw [s1,s2,s3,s4,s5,s6,s7];rfl
 ·unfold I0 bk;rw [g0,b6,y2,hTT,x4,xD U,xD (by cases hb:D8 c.exts<;>simp_all)]
 ·unfold I1 bk G0;rw [g0,g2,hTT,b1,b2,b3,b4,b5,b6,b40,b41,a2,o1,n1,n2,t1,t2,y2,x4];rfl
theorem YS {k:Nd}(hp:k.put.isSome=true) (h:HY k=true):GV (Pj k)=k:=by
 unfold HY at h;simp only [xB,a_] at h;obtain⟨⟨⟨h1,h2⟩,h3⟩,h4⟩:=h;unfold GV Pj;simp only;rw [i6 h2 h4,(fQ h3).2];exact(dM h1 hp).symm
def YT (g:Gn):Gn:=⟨CV (vL g.xU),g.at_⟩
def Kv (l:Cl):Cl:={ l with gone:=l.gone.map YT }
theorem RI {g:Gn}(h:Bj g.at_=0):HY (GV g)=true/\Pj (GV g)=YT g:=by
 obtain⟨a1,a2,_⟩:=cU g.xU;rw [gk] at a2;have t1:=gO h;have k0:kd (GV g) 0=Bt g.xU:=rfl;have k1:kd (GV g) 1=AM g.at_:=rfl;unfold HY Pj YT;rw [k0,k1,a1,a2,t1];exact⟨U,U⟩
theorem YR {n:Nd}(hp:n.put.isSome=true) (h:FV n=true):H4 (EF n).1=[n]:=by
 unfold EF;rw [xD h];unfold FV at h;rw [xB] at h;obtain⟨hn,m1,m2⟩:=dB h.1 hp;have hm:(n.kids.map Pj).map GV=n.kids:=by
  rw [yv];conv=>rhs;rw [<- Ag n.kids]
  exact xO λk hk=>YS (bV hp k hk) (xH.1 h.2 k hk)
 have D5:n.kids.map Pj≠[]:=λe=>by
  have:n.kids.length=0:=by rw [<- aq (f:=Pj),e];rfl
  omega
 unfold H4;rw [xC D5,hm];conv=>rhs;rw [hn]
theorem pS {n:Nd}(h:Gg n=true):Gh (H8 n)=0/\Dg (H8 n)=n:=by
 unfold Gg at h;rw [xB,xB,a_] at h;obtain⟨⟨h,hg⟩,hE⟩:=h;refine⟨hE,?_⟩;simp only [Lu,Vj,xB,a_] at h;obtain⟨⟨⟨⟨h1,h2⟩,h3⟩,⟨⟨s1,s2⟩,s3⟩⟩,⟨⟨⟨⟨⟨⟨i1,i2⟩,i3⟩,n3⟩,t3⟩,t4⟩,b2⟩⟩:=h;have hs:AN (Ao (bk n 1)):=by
  unfold Gh Ke at hE;refine gR (n:=Ao (bk n 1)) λhz=>?_;rw [show(H8 n).hash=Ao (bk n 1) from rfl,xD hz] at hE;split at hE
  ·omega
  split at hE
  ·omega
  omega
 obtain⟨ho,_⟩:=fi (jS hs);obtain⟨hn,m1,m2⟩:=dB h2 h1;have Dj:=bV h1;obtain⟨x0,x1,x2,e0⟩:∃ a b c,n.kids=[a,b,c]:=by
  match hh:n.kids,m1,m2 with
  |[a,b,c],_,_=>exact⟨a,b,c,U⟩
  |[],n1,_=>simp at n1
  |[_],n1,_=>simp at n1
  |[_,_],n1,_=>simp at n1
  |_::_::_::_::_,_,n2=>simp at n2;omega
 have k0:kd n 0=x0:=by simp [kd,e0]
 have k1:kd n 1=x1:=by simp [kd,e0]
 have k2:kd n 2=x2:=by simp [kd,e0]
 have p0:x0.put.isSome=true:=Dj x0 (by simp [e0]);have p2:x2.put.isSome=true:=Dj x2 (by simp [e0]);rw [k2] at s1 s2 s3;have Yu:x2=.mk 0 3 false (0::x2.bytes.drop 1) []:=by
  refine je ?_;unfold CA Dq;rw [s1,s2,s3,p2];rfl
 have hN:Dg (H8 n)=.mk 0 16 true [] [Ib (H8 n),CE (H8 n).hash,.mk 0 3 false (0::(H8 n).sig) []]:=xD hE;rw [hN];have e2:(H8 n).sig=x2.bytes.drop 1:=by rw [<- k2];rfl
 have e1:CE (H8 n).hash=x1:=by
  show CE (Ao (bk n 1))=x1;rw [<- b2,<- k1];exact(fi (by rw [b2];exact jS hs)).1
 rw [e1,e2,<- Yu];conv=>rhs;rw [hn,e0]
 congr 2;obtain⟨q0,q1,q2⟩:=dB (n:=x0) (by rw [<- k0];exact h3) p0;have pk:=bV p0;unfold bk at i1 i2 i3 n3 t3 t4 ho hg;rw [k0] at i1 i2 i3 n3 t3 t4 ho hg;have hK:Mn (H8 n)=[kd x0 0,kd x0 1,kd x0 2,kd x0 3,kd x0 4]:=by
  unfold Mn;have f1:(H8 n).hash=Ao (kd x0 1):=by rw [<- k0];rfl
  have f2:(H8 n).yg=(nameOf (kd x0 2)).1:=by rw [<- k0];rfl
  have f3:(H8 n).this=(zC (kd x0 3)).1:=by rw [<- k0];rfl
  have f4:(H8 n).next=(zC (kd x0 4)).1:=by rw [<- k0];rfl
  rw [f1,f2,f3,f4,ho,i7 n3,(fQ t3).2,(fQ t4).2,<- i3,<- ju i1 i2]
 unfold Ib;rw [hK];have f5:(H8 n).gone=if Sl n then(EF (kd x0 5)).1 else []:=by rw [<- k0];rfl
 rw [f5];conv=>rhs;rw [q0]
 cases hh:Sl n with
 |true =>
  rw [hh] at hg;have hg:FV (kd x0 5)=true:=by simpa using hg
  have h6:(x0.kids.length:Int)=6:=by unfold Sl at hh;rw [k0] at hh;exact xV hh
  match hk:x0.kids,h6 with
  |[y0,y1,y2,y3,y4,y5],_ =>
   have hy:kd x0 5=y5:=by simp [kd,hk]
   rw [xD U,YR (pk _ (by rw [hy,hk];simp)) hg];simp [kd,hk]
 |false =>
  have h6:¬ (x0.kids.length:Int)=6:=by unfold Sl at hh;rw [k0] at hh;exact zz hh
  match hk:x0.kids,h6,q1,q2 with
  |[y0,y1,y2,y3,y4],_,_,_ =>
   rw [xC (by simp)];simp [kd,hk,H4]
  |[],_,q1,_=>simp at q1
  |[_],_,q1,_=>simp at q1
  |[_,_],_,q1,_=>simp at q1
  |[_,_,_],_,q1,_=>simp at q1
  |[_,_,_,_],_,q1,_=>simp at q1
  |[_,_,_,_,_,_],h6,_,_=>exact absurd U h6
  |_::_::_::_::_::_::_::_,_,_,q2=>simp at q2;omega
theorem Wq (g:List UInt32):HL (CV (vL g))=HL g/\vL (CV (vL g))=vL g:=by
 refine⟨?_,gL _⟩;unfold HL zQ;rw [cT,cT,gL]
theorem a9q (l:Cl):Gh (Kv l)=Gh l:=by
 have hg:EE (l.gone.map YT)=EE l.gone:=by
  unfold EE;have key:∀ j,j<l.gone.length->Bu (l.gone.map YT) j=Bu l.gone j:=λj hj=>by
   have e:∀ i,i<l.gone.length->(l.gone.map YT).getD i default=YT (l.gone.getD i default):=λi hi=>by
    rw [aU hi,aU (z:=default) (by rw [aq];exact hi),Ba]
   unfold Bu;rw [e j hj,e (j-1) xE];show(decide (Bj (l.gone.getD j default).at_=0)&&HL (CV (vL (l.gone.getD j default).xU))&&(decide (j=0)||decide (0<B3 (vL (CV (vL (l.gone.getD j default).xU))) (vL (CV (vL (l.gone.getD (j-1) default).xU))))))=_;rw [(Wq _).1,(Wq _).2,(Wq _).2]
  refine y7.2 ?_;rw [aq];exact⟨λk j hj=>by rw [<- key j hj];exact k j hj,λk j hj=>by rw [key j hj];exact k j hj⟩
 unfold Gh Ke Kv;simp only [hg,aq]
theorem tM {l:Cl}(h:Gh l=0):Gg (Dg l)=true/\H8 (Dg l)=Kv l:=by
 have hp:=a36 hT h;have hN:Dg l=_:=xD h;have hE:=h;unfold Gh at h;split at h
 ·omega
 split at h
 ·omega
 unfold Ke at h;split at h
 ·omega
 split at h
 ·omega
 split at h
 ·omega
 split at h
 ·omega
 split at h
 ·omega
 split at h
 ·omega
 split at h
 ·omega
 rename_i q1 q2 q3 q4 q5 q6 q7 q8 q9;have hh:=gR q3;have hg:EE l.gone=true:=by cases hb:EE l.gone<;>simp_all
 have o1:=fj hh;have t1:=gO (t:=l.this) (zg.1 q4);have t2:=gO (t:=l.next) (zg.1 q5);have n1:=lH (dX.1 (zg.1 q9));have hi:=cK 1 yD yD;have g0:kd (Dg l) 0=Ib l:=by rw [hN];rfl
 have g1:kd (Dg l) 1=CE l.hash:=by rw [hN];rfl
 have g2:kd (Dg l) 2=.mk 0 3 false (0::l.sig) []:=by rw [hN];rfl
 have b0:kd (Ib l) 0=.mk 0 2 false (B2 1) []:=rfl;have b1:kd (Ib l) 1=CE l.hash:=rfl;have b2:kd (Ib l) 2=AO l.yg:=rfl;have b3:kd (Ib l) 3=AM l.this:=rfl;have b4:kd (Ib l) 4=AM l.next:=rfl;have hq:xR (Dg l) 3 3=true:=by rw [hN];rfl
 have hgo:xR (Ib l) 5 6=true/\(!Sl (Dg l)||FV (kd (Ib l) 5))=true/\(if Sl (Dg l) then(EF (kd (Ib l) 5)).1 else [])=l.gone.map YT:=by
  unfold Sl;rw [g0];by_cases hz:l.gone=[]
  ·have e:Ib l=.mk 0 16 true [] (Mn l):=by unfold Ib H4;rw [hz];simp
   rw [e,hz];exact⟨U,U,U⟩
  ·have Md:=As.2 hz;have e:Ib l=.mk 0 16 true [] (Mn l++[.mk 0 16 true [] (l.gone.map GV)]):=by unfold Ib H4;rw [xC hz]
   have e5:kd (Ib l) 5=.mk 0 16 true [] (l.gone.map GV):=by rw [e];rfl
   have el:decide (((Ib l).kids.length:Int)=6)=true:=by rw [e];rfl
   have hat:∀ g∈l.gone,Bj g.at_=0:=λg YG=>by
    obtain⟨i,hi,rfl⟩:=BB YG;have ha:=xV hg i hi;unfold Bu at ha;rw [aU hi,xB,xB,a_] at ha;exact ha.1.1
   have zt:FV (.mk 0 16 true [] (l.gone.map GV))=true:=by
    unfold FV;rw [xB];constructor
    ·simp only [xR,Fb,FQ,HS,Fs,aq,xB,a_];exact⟨⟨⟨⟨trivial,trivial⟩,trivial⟩,by omega⟩,by omega⟩
    ·rw [Fs,zp,xH];exact λg YG=>(RI (hat g YG)).1
   refine⟨by rw [e];rfl,by rw [e5,zt,Jy],?_⟩;rw [el,xD U,e5];unfold EF;rw [xD zt];show(l.gone.map GV).map Pj=l.gone.map YT;rw [yv];exact xO λg YG=>(RI (hat g YG)).2
 obtain⟨w1,w2,w3⟩:=hgo;have hV:H8 (Dg l)=Kv l:=by
  unfold H8 bk Kv;rw [g0,g2,b1,b2,b3,b4,o1,n1,t1,t2,w3];rfl
 refine⟨?_,hV⟩;unfold Gg Lu Vj bk;rw [hV,a9q,hE,hp,hq,g0,g1,g2,b0,b1,b2,b3,b4,w1,w2,hi.1,hi.2.1,o1,n1,t1,t2];have s6:decide (l.hash=l.hash)=true:=ae U;rw [s6];rfl
theorem rx {f:Fe}(h:Ck f=true):yU (yS f)=(f,true):=by
 have hN:yS f=_:=xD h;have hf:=h;simp only [Ck,xB,a_] at hf;obtain⟨⟨⟨⟨g1,g2⟩,g3⟩,g4⟩,g5⟩:=hf;have e:fR (yS f)=f:=by
  rw [hN];show(⟨(AK (Ay f.zJ).bytes).getD [],((f.yB.map λv=>(xN v).1).take 10).map λk=>k.put.getD []⟩:Fe)=f;rw [oR g1,aD (by rw [aq];omega),yv];have:f.yB.map ((λk:Nd=>k.put.getD [])∘λv=>(xN v).1)=f.yB:=by
   conv=>rhs;rw [<- Ag f.yB]
   refine xO λv hv=>?_;have:=xH.1 g4 v hv;simp only [EM,xB,a_] at this;have hw:=wO this.1;show((xN v).1.put).getD []=v;rw [lY (by rw [hw]),hw];rfl
  rw [this];rfl
 rw [xe];unfold K7;rw [e,ae (fX.2 h),(Nd.beq_eq _ _ _ (aB _)).2 rfl];rfl
theorem a3Z {l:List Fe}(h:MZ l=true):KV (l.map yS)=(l,true):=by
 have h1:=k_ h;have h2:=WT h;have e:(l.map yS).map (λk=>(yU k).1)=l:=by
  rw [yv];conv=>rhs;rw [<- Ag l]
  exact xO λf hf=>by show(yU (yS f)).1=f;rw [rx (h2 f hf)]
 unfold KV;rw [e,xD];rw [xB,a_,aq,zp,xH];exact⟨by omega,λf hf=>by show(yU (yS f)).2=true;rw [rx (h2 f hf)]⟩
def Gw (s:Sg):Sg:={ s with xU:=if 0<(s.Ec.length:Int) then [] else CV (vL s.xU) }
theorem a5X (l:List UInt32):Bt (CV (vL l))=Bt l:=by
 unfold Bt;rw [p9,p9,cT,cT,gL]
theorem a0Y {s:Sg}(h:z_ s=true):z_ (Gw s)=true/\BW (Gw s)=BW s:=by
 have hw:Ez (Gw s)=Ez s/\BJ (Gw s)=BJ s:=by
  have h0:Ez s=true:=by
   unfold z_ at h;simp only [xB] at h;exact h.1.1.1.1.1
  unfold Ez at h0;unfold Ez BJ Gw Gy;by_cases hl:0<(s.Ec.length:Int)
  ·rw [xD hl] at h0;simp only [xD hl];refine⟨?_,trivial⟩;simp only [xB,yN,xL] at h0;have:Gy s=0:=by omega
   unfold Gy at this;rw [this];rfl
  ·simp only [xC hl];rw [cT,cT,gL,a5X];exact⟨U,U⟩
 have hr:z_ (Gw s)=z_ s:=by
  unfold z_;rw [hw.1];rfl
 refine⟨by rw [hr];exact h,?_⟩;unfold BW FL;rw [hr,hw.2];rfl
theorem Wg {s:Sg}(h:z_ s=true):HJ (BW s)=true/\BV (BW s)=Gw s:=by
 have hN:BW s=.mk 0 16 true [] (FL s):=xD h;have hr:=h;simp only [z_,xB,a_] at hr;obtain⟨⟨⟨⟨⟨r1,r2⟩,r3⟩,r4⟩,r5⟩,r6⟩:=hr;have hh:=jw r2;have k1:kd (BW s) 1=BJ s:=by rw [hN];rfl
 have k2:kd (BW s) 2=Dl s.hash:=by rw [hN];rfl
 obtain⟨c1,c2,c3⟩:IU (BJ s)=s.yg/\KH (BJ s)=(Gw s).xU/\KG (BJ s)=s.Ec:=by
  unfold Ez at r1;unfold BJ IU KH KG Gw;by_cases hl:0<(s.Ec.length:Int)
  ·simp only [xD hl] at r1 |-
   simp only [xB,yN,xL] at r1;rw [xD (by rfl),xD (by rfl),xD (by rfl)];exact⟨(xI xE).symm,U,U⟩
  ·simp only [xC hl] at r1 |-
   simp only [xB,a_] at r1;rw [xC (by rw [Fb];decide),xC (by rw [Fb];decide),xC (by rw [Fb];decide)];have q0:kd (Nd.mk 0 16 true [] [AO s.yg,Bt s.xU]) 0=AO s.yg:=rfl;have q1:kd (Nd.mk 0 16 true [] [AO s.yg,Bt s.xU]) 1=Bt s.xU:=rfl;rw [q0,q1,lH (dX.1 r1.2),(cU s.xU).2.1,gk];exact⟨U,U,(xI xE).symm⟩
 have hsg:Fl (BW s)=decide (s.signed≠[])/\(if Fl (BW s) then(KV (kd (BW s) 3).kids).1 else [])=s.signed/\(!Fl (BW s)||(KV (kd (BW s) 3).kids).2)=true/\kd (BW s) (LS (BW s)+1)=GC s.sig/\KV (kd (BW s) (LS (BW s)+2)).kids=(s.yc,true):=by
  have fu:KV (lk (F5 1 s.yc) 0).kids=(s.yc,true):=by
   by_cases u:s.yc=[]
   ·rw [u];rfl
   ·rw [bT u];exact a3Z r4
  by_cases u:s.signed=[]
  ·have k3:kd (BW s) 3=CE s.hash:=by rw [hN];unfold FL;rw [u];rfl
   have e:Fl (BW s)=false:=by unfold Fl;rw [k3,pZ hh];rfl
   have hI:LS (BW s)=3:=by unfold LS;rw [e];rfl
   have k4:kd (BW s) 4=GC s.sig:=by rw [hN];unfold FL;rw [u];rfl
   have k5:kd (BW s) 5=lk (F5 1 s.yc) 0:=by rw [hN];unfold FL;rw [u];rfl
   rw [e,hI,k4,k5,fu,u];exact⟨U,U,U,U,U⟩
  ·have k3:kd (BW s) 3=Et 0 s.signed:=by rw [hN];unfold FL;rw [bT u];rfl
   have e:Fl (BW s)=true:=by unfold Fl;rw [k3];rfl
   have hI:LS (BW s)=4:=by unfold LS;rw [e];rfl
   have k4:kd (BW s) 5=GC s.sig:=by rw [hN];unfold FL;rw [bT u];rfl
   have k5:kd (BW s) 6=lk (F5 1 s.yc) 0:=by rw [hN];unfold FL;rw [bT u];rfl
   have f3:KV (kd (BW s) 3).kids=(s.signed,true):=by rw [k3];exact a3Z r3
   rw [e,hI,k4,k5,fu,f3];exact⟨(ae u).symm,U,U,U,U⟩
 obtain⟨d1,d2,d3,d4,d5⟩:=hsg;have hR:I' (BW s)=Gw s:=by
  unfold I';rw [k1,k2,c1,c2,c3,mN hh,d2,d4,d5];rfl
 obtain⟨e1,e2⟩:=a0Y h;have zt:IG (BW s)=true:=by
  unfold IG;rw [hR,e1,e2,d3,d5,(Nd.beq_eq _ _ _ (aB _)).2 rfl];rfl
 have hO:=a0X zt;exact⟨hO,by rw [<- hR];exact(ul hO).2.symm⟩
theorem Wi {n:Nd}(h:HJ n=true):z_ (BV n)=true/\BW (BV n)=n:=by
 obtain⟨h1,h2⟩:=ul h;rw [<- h2];simp only [IG,xB] at h1;exact⟨h1.1.2,(Nd.beq_eq _ _ n (aB _)).1 h1.2⟩
def a3C (st:Bool) (l:List yG) (i:Nat):Prop:=(l.getD i default).length≠0/\(0<i->¬ 0<Go.Lib.compareBytes (l.getD (i-1) default) (l.getD i default)/\(st=true->0<Go.Lib.compareBytes (l.getD i default) (l.getD (i-1) default)))
instance (st:Bool) (l:List yG) (i:Nat):Decidable (a3C st l i):=by unfold a3C;infer_instance
theorem St:∀ x y:yG,Go.Lib.compareBytes x y=- Go.Lib.compareBytes y x
 |[],[]=>rfl
 |[],_::_=>rfl
 |_::_,[]=>rfl
 |a::x,b::y=>by
  simp only [Go.Lib.compareBytes];by_cases h1:a<b
  ·have h2:¬ b<a:=λh=>absurd (UInt8.lt_trans h1 h) (UInt8.lt_irrefl _);simp [h1,h2]
  ·by_cases h2:b<a
   ·simp [h1,h2]
   ·simp only [h1,h2,if_false];exact St x y
section
variable (hT:∀ t,Bj t=0->(AM t).put.isSome=true)
include hT
end
theorem S5:∀ (acc l:List Int) (x:Int),MG acc (l++[x])=if((MG acc l).any λt=>decide (t=x))=true then MG acc l else MG acc l++[x]
 |acc,[],x=>rfl
 |acc,y::l,x=>by
  rw [xX,lS,lS];split
  ·exact S5 acc l x
  ·exact S5 _ l x
theorem tH:∀ (acc l:List Int) (x:Int),x∈MG acc l<->x∈acc\/x∈l
 |acc,[],x=>by rw [S4];simp
 |acc,y::l,x=>by
  rw [lS];split
  ·rename_i h;rw [BQ] at h;obtain⟨t,ht,hh⟩:=h;have:=xV hh;subst this;rw [tH acc l x,zE];constructor
   ·rintro(h|h)
    ·exact .inl h
    ·exact .inr (.inr h)
   ·rintro(h|h|h)
    ·exact .inl h
    ·subst h;exact .inl ht
    ·exact .inr h
  ·rw [tH (acc++[y]) l x,Bo,zS,zE,or_assoc]
theorem a18 {s:Sd}:(Dp (CN s)).1.rk<=3:=by
 rcases qn (CN s) with ⟨h1,h2,h3⟩|⟨l0,L,h1,h2,h3,h4,h5⟩
 ·rw [h2];simp [NZ,Nd.rk,Nd.CO]
 ·rw [h4];have:Nd.CO (L.map (·.2))<=2:=a5a _ λp hp=>by
   have V9:=h2.mem_iff.1 hp;have:p.2∈CN s:=by rw [<- h1.1];exact y'.2 ⟨p,V9,U⟩
   obtain⟨x,hx,he⟩:=y'.1 this;rw [<- he];have:=a5N (Dz x);simp only [Dl,Nd.rk,Nd.CO];omega
  simp only [Nd.rk];omega
theorem a1M {l:List yG}(h:∀ j,j+1<l.length->¬ 0<Go.Lib.compareBytes (l.getD j []) (l.getD (j+1) [])):E5 l=true:=ae λj hj=>h j xE
theorem Wl {s:Sd}(h:∀ c∈s.signers,z_ c=true):(Dp (CN s)).1.put.isSome=true:=by
 have hk:∀ x∈CN s,x.put.isSome=true:=λx hx=>by
  obtain⟨n,hn,rfl⟩:=y'.1 hx;rcases(tH _ _ _).1 hn with hn|hn
  ·cases hn
  ·obtain⟨g,hg,rfl⟩:=y'.1 hn;have hr:=h g hg;unfold z_ at hr;simp only [xB,a_] at hr;exact vJ (jw hr.1.1.1.1.2)
 rcases qn (CN s) with ⟨⟨x,hx,hb⟩,h2,h3⟩|⟨l0,L,h1,h2,h3,h4,h5⟩
 ·have:=hk x hx;rw [hb] at this;cases this
 ·have hp:∀ p∈L,p.2.put=some p.1:=λp hp=>h1.2 p (h2.mem_iff.1 hp);rw [h4,mn,xB];refine⟨?_,a1M λj hj=>?_⟩
  ·rw [zp,xH];intro p Yw;show p.2.put.isSome=true;rw [hp p Yw];rfl
  ·rw [aq,aq] at hj;have e:∀ i (hi:i<L.length),(((L.map (·.2)).map λk=>k.put.getD []).getD i [])=L[i].1:=λi hi=>by
    rw [aU (z:=[]) (by rw [aq,aq];exact hi),Ba,Ba,hp _ (ax hi)];rfl
   rw [e j xE,e (j+1) hj];have hpw:=HE.1 h3 j (j+1) xE hj xE;have hf:=St L[j].1 L[j+1].1;unfold KK at hpw;have:=zz hpw;omega
theorem kW {n:Nd}(hp:n.put.isSome=true) (h:(Bm n).2=true):Ay (Bm n).1=n/\(Ai (Bm n).1).isSome=true:=by
 have hn:(Bm n).1≠[]:=by
  intro e;unfold Bm at h e;split at h
  ·rename_i hb;rw [xD hb] at e;simp only at h e;obtain⟨s,hs⟩:=yE.1 h;rw [hs,zw] at e;have:=qR hs;rw [e] at this;exact absurd this (by rw [show Ai []=none from rfl];simp)
  ·cases h
 obtain⟨h1,h2⟩:=Sz hp hn;obtain⟨o1,_,o3⟩:=dW h1;rw [<- h2];exact⟨o1,o3⟩
theorem Sy {s:yG}(h:(Ai s).isSome=true):Bm (Ay s)=(s,true):=by
 unfold Bm;rw [xD (by simp [Ay,Fb,FQ]),oR h];rfl
theorem xk {k:Nd}(h:(Bb k).2=0):Bc (Bb k).1=0/\Aj (Bb k).1=k/\AV k=true/\(Bb k).1=I1 k:=by
 unfold Bb at h |-
 by_cases h1:AV k=true
 ·rw [xD h1] at h |-
  by_cases h2:I0 k=0
  ·rw [xD h2];obtain⟨a,b⟩:=mW h1 h2;exact⟨a,b,h1,U⟩
  ·rw [xC h2] at h;exact absurd h h2
 ·rw [xC h1] at h;exact absurd h yD
theorem Uw {k:Nd}(h:(Eb k).2=0):Gh (Eb k).1=0/\Dg (Eb k).1=k/\Gg k=true/\(Eb k).1=H8 k:=by
 unfold Eb at h |-
 by_cases h1:Gg k=true
 ·rw [xD h1];obtain⟨a,b⟩:=pS h1;exact⟨a,b,h1,U⟩
 ·rw [xC h1] at h;exact absurd h yD
theorem Ti {k:Nd}(h:(C5 k).2=true):z_ (C5 k).1=true/\BW (C5 k).1=k/\HJ k=true/\(C5 k).1=BV k:=by
 unfold C5 at h |-
 by_cases h1:HJ k=true
 ·rw [xD h1];obtain⟨a,b⟩:=Wi h1;exact⟨a,b,h1,U⟩
 ·rw [xC h1] at h;cases h
theorem R1 {α β:Type}{f:α->β}{g:β->α}{l:List α}(h:∀ x∈l,g (f x)=x):(l.map f).map g=l:=by
 rw [yv];conv=>rhs;rw [<- Ag l]
 exact xO λx hx=>h x hx
theorem qP {x:Nd}{t:Int}{α:Type}{f:Nd->α}{g:α->Nd}(hp:x.put.isSome=true) (hc:zd x t true=true) (hl:0<(x.kids.length:Int)) (h:∀ k∈x.kids,g (f k)=k):Ch t ((x.kids.map f).map g)=[x]:=by
 obtain⟨q1,q2,q3⟩:=fv hc;have hb:=(dn hp).1 q3;have e:=R1 h;unfold Ch;rw [e,xC (by rintro hh;rw [hh] at hl;simp at hl)];obtain⟨c,t',k,b,ks⟩:=x;simp only [Fb,FQ,HS,HD,Fs] at *;subst q1 q2 q3 hb;rfl
theorem nM {x:Nd}{t:Int}(hp:x.put.isSome=true) (hc:zd x t true=true) (hl:(x.kids.length:Int)=1):x=.mk 2 t true [] [kd x 0]:=by
 obtain⟨q1,q2,q3⟩:=fv hc;exact mV hp q1 q2 hl
theorem Qb {s:Sd}(h:∀ c∈s.signers,z_ c=true) (hl:s.signers.length<=16):(Dp (CN s)).1.wr.2=0/\(Dp (CN s)).1.wr.1≠[]:=by
 have hp:=Wl h;have hk:=a18 (s:=s);have hz:=sv hl;obtain⟨b,hb⟩:=yE.1 hp;have hlen:=dA _ _ _ (aB _) hb;unfold Nd.wr;rw [hb];simp only;rw [xC xE,xC xE];exact⟨U,by rintro rfl;simp at hlen⟩
theorem a4s {x y:Nd}(h1:y.wr.2=0) (h2:y.wr.1≠[]) (h:x.wr.1=y.wr.1):x=y:=by
 have hx:x.wr.2=0:=by
  refine Cg λhn=>?_;have:x.wr.1=[]:=by
   unfold Nd.wr at hn |-
   split
   ·rfl
   ·rename_i b hb;rw [hb] at hn;simp only at hn;split
    ·rfl
    ·rename_i q1;rw [xC q1] at hn;split
     ·rfl
     ·rename_i q2;rw [xC q2] at hn;exact absurd U hn
  exact h2 (by rw [<- h,this])
 have a:=gu hx;have b:=gu h1;rw [h,b] at a;exact(congrArg (·.1) a).symm
theorem Wt {n:Nd}(h:Fm n=true):FG (BL n)=true/\DS (BL n)=n:=by
 simp only [Fm,xB,a_] at h;obtain⟨⟨⟨⟨⟨⟨⟨h1,h2⟩,⟨h3,h4⟩⟩,⟨h5,h6⟩⟩,h7⟩,h8⟩,h9⟩,⟨⟨⟨i1,i2⟩,i3⟩,i4⟩⟩:=h;refine⟨h9,?_⟩;have hn:=dM h2 h1;have hk:=bV h1;have pk0:=hk (kd n 0) (by rw [hn];simp [Fs,kd]);have pk1:=hk (kd n 1) (by rw [hn];simp [Fs,kd]);have By:=nM pk1 h3 h4;have Fo:=bV pk1 (AE n) (by rw [By];simp [Fs,kd,AE]);obtain⟨hin,m1,m2⟩:=dB h7 Fo;have pki:=bV Fo;obtain⟨o1,o2⟩:=kW pk0 h5;obtain⟨x0,x1,x2,x3,r,e0⟩:∃ a b c d r,(AE n).kids=a::b::c::d::r:=by
  match hh:(AE n).kids,m1 with
  |a::b::c::d::r,_=>exact⟨a,b,c,d,r,U⟩
  |[],m1=>simp at m1
  |[_],m1=>simp at m1
  |[_,_],m1=>simp at m1
  |[_,_,_],m1=>simp at m1
 have k0:kd (AE n) 0=x0:=by
  show(AE n).kids.getD 0 (.mk 0 0 false [] [])=x0;rw [e0];rfl
 have k1:kd (AE n) 1=x1:=by
  show(AE n).kids.getD 1 (.mk 0 0 false [] [])=x1;rw [e0];rfl
 have k2:kd (AE n) 2=x2:=by
  show(AE n).kids.getD 2 (.mk 0 0 false [] [])=x2;rw [e0];rfl
 have Vc:CD n=x3::r:=by unfold CD;rw [e0];rfl
 have pT3:∀ k∈CD n,k.put.isSome=true:=λk Rx=>pki k (by rw [e0];rw [Vc] at Rx;exact aE _ (aE _ (aE _ Rx)));simp only [J4,xB,a_] at h8;obtain⟨⟨⟨⟨⟨⟨⟨c1,c2⟩,c3⟩,c4⟩,c5⟩,c6,c7⟩,c8⟩,c9⟩:=h8;rw [k2] at c1;have px2:=pki x2 (by simp [e0]);obtain⟨q0,q1,q2⟩:=dB c1 px2;have pkc:=bV px2
 -- content
 have hE:.mk 0 16 true [] (F8 (BL n))=x2:=by
  have f1:(BL n).type=(Bm (kd x2 0)).1:=by unfold BL;rw [k2]
  have f2:(BL n).has=decide ((x2.kids.length:Int)=2):=by unfold BL CI;rw [k2]
  have f3:(BL n).content=if CI n then(kd (kd x2 1) 0).bytes else []:=by unfold BL;rw [k2]
  have f4:CI n=decide ((x2.kids.length:Int)=2):=by unfold CI;rw [k2]
  rw [k2] at c2 c3;rw [f4] at c2 f3;unfold F8;rw [f1,f2]
  match hh:x2.kids,q1,q2 with
  |[],q1,_=>simp at q1
  |[y],_,_ =>
   have ey:kd x2 0=y:=by simp [kd,hh]
   rw [ey] at c3 |-
   have hy:=(kW (pkc y (by simp [hh])) c3).1;rw [xC (by simp),hy,<- hh,<- q0]
  |[y,z],_,_ =>
   have ey:kd x2 0=y:=by simp [kd,hh]
   have ez:kd x2 1=z:=by simp [kd,hh]
   rw [hh] at f3 c2;rw [ez] at f3 c2;rw [ey] at c3 |-
   have hy:=(kW (pkc y (by simp [hh])) c3).1;have c2:(zd z 0 true&&decide ((z.kids.length:Int)=1)&&decide ((kd z 0).cls=0)&&decide ((kd z 0).tag=4))=true:=by simpa using c2
   simp only [xB,a_] at c2;obtain⟨⟨⟨d1,d2⟩,d3⟩,d4⟩:=c2;have hz:=nM (pkc z (by simp [hh])) d1 d2;have pz:=bV (pkc z (by simp [hh])) (kd z 0) (by rw [hz];simp [Fs,kd]);have hz0:=(ff pz d3 d4 yD).1;have f3':(BL n).content=(kd z 0).bytes:=by rw [f3];rfl
   rw [xD (by rfl),hy,f3',<- hz0,<- hz,<- hh,<- q0]
  |_::_::_::_,_,q2=>simp at q2;omega
 -- a39
 have hC:CD n=Ch 0 ((BL n).yj.map Aj)++Ah n/\∀ k∈Ah n,k.put.isSome=true:=by
  unfold BL Ah;simp only;cases hh:E9 (CD n) with
  |false=>rw [xC (by simp),xC (by simp)];exact⟨U,pT3⟩
  |true =>
   rw [xD U,xD rfl];rw [hh] at c4;have c4:(lk (CD n) 0).kids.all (λk=>(Bb k).2 == 0)=true:=by simpa using c4
   unfold E9 at hh;rw [xB,a_] at hh;rw [Vc] at hh c4 pT3 |-
   have:=qP (f:=λk=>(Bb k).1) (g:=Aj) (pT3 x3 (by simp)) hh.1 hh.2 (λk Rx=>(xk (eq_of_beq (xH.1 c4 k Rx))).2.1);refine⟨?_,λk Rx=>pT3 k (aE _ Rx)⟩;show x3::r=Ch 0 ((x3.kids.map λk=>(Bb k).1).map Aj)++r;rw [this];rfl
 obtain⟨hC,pT4⟩:=hC;have hL:Ah n=Ch 1 ((BL n).crls.map Dg)++BD n/\∀ k∈BD n,k.put.isSome=true:=by
  unfold BL BD;simp only;cases hh:E8 (Ah n) with
  |false=>rw [xC (by simp),xC (by simp)];exact⟨U,pT4⟩
  |true =>
   rw [xD U,xD rfl];rw [hh] at c5;have c5:(lk (Ah n) 0).kids.all (λk=>(Eb k).2 == 0)=true:=by simpa using c5
   unfold E8 at hh;rw [xB,xB,a_,a_] at hh;obtain⟨⟨l0,l1⟩,l2⟩:=hh
   match hT:Ah n,l0 with
   |y::t,_ =>
    rw [hT] at l1 l2 c5 pT4;have:=qP (f:=λk=>(Eb k).1) (g:=Dg) (pT4 y (by simp)) l1 l2 (λk Rx=>(Uw (eq_of_beq (xH.1 c5 k Rx))).2.1);refine⟨?_,λk Rx=>pT4 k (aE _ Rx)⟩;show y::t=Ch 1 ((y.kids.map λk=>(Eb k).1).map Dg)++t;rw [this];rfl
   |[],l0=>simp at l0
 obtain⟨hL,pT5⟩:=hL;have hG:BD n=[.mk 0 17 true [] ((BL n).signers.map BW)]:=by
  match hT:BD n,c6 with
  |[y],_ =>
   have f:(BL n).signers=y.kids.map λk=>(C5 k).1:=by unfold BL;rw [hT];rfl
   rw [hT] at c7 c8 c9 pT5;have c7:y.cls=0:=c7;have c8:y.tag=17:=c8;obtain⟨s1,s2⟩:=fT (pT5 y (by simp)) c7 c8 yD;have hm:=R1 (f:=λk=>(C5 k).1) (g:=BW) (l:=y.kids) (λk Rx=>(Ti (xH.1 c9 k Rx)).2.1);rw [f,hm];obtain⟨c,t,k,b,ks⟩:=y;simp only [Fb,FQ,HS,HD,Fs] at *;subst c7 c8 s1 s2;rfl
  |[],c6=>simp at c6
  |_::_::_,c6=>simp at c6;omega
 have hs:=jW h9;obtain⟨w1,w2⟩:=Qb (s:=BL n) hs.2.2 (gT h9).2.2.2.2;rw [k1] at i4;have hD:x1=(Dp (CN (BL n))).1:=a4s w1 w2 i4;rw [k0] at i1 i2 i3;have hI:=ju i1 i2;have hN:DS (BL n)=.mk 0 16 true [] [Ay Ad,.mk 2 0 true [] [KQ (BL n)]]:=xD h9;have hJ:KQ (BL n)=AE n:=by
  unfold KQ Ii Ht Ow;rw [hE,<- hD,<- i3,<- hI,hin,e0];simp only [xX,xP,xW];rw [<- hG,<- hL,<- hC,Vc]
 rw [hN,hJ];conv=>rhs;rw [hn,By]
 rw [<- h6,o1]
def L9 (s:Sd):Sd:={ s with yj:=s.yj.map G0,crls:=s.crls.map Kv,signers:=s.signers.map Gw }
theorem Sc {c:BU}(h:Bc c=0) (h1:c.key.n.length<=4096/\c.key.e.length<=4096):Bc (G0 c)=0/\Aj (G0 c)=Aj c:=by
 obtain⟨a1,a2,a3⟩:=pQ h h1.1 h1.2;obtain⟨b1,b2⟩:=mW a1 a2;rw [a3] at b1 b2;exact⟨b1,b2⟩
theorem a35 {l:Cl}(h:Gh l=0):Gh (Kv l)=0/\Dg (Kv l)=Dg l:=by
 obtain⟨a1,a3⟩:=tM h;obtain⟨b1,b2⟩:=pS a1;rw [a3] at b1 b2;exact⟨b1,b2⟩
theorem rH {c:BU}(h:Bc c=0) (h1:c.key.n.length<=4096/\c.key.e.length<=4096):Bb (Aj c)=(G0 c,0):=by
 obtain⟨a1,a2,a3⟩:=pQ h h1.1 h1.2;unfold Bb;rw [xD a1,xD a2,a3]
theorem vX {l:Cl}(h:Gh l=0):Eb (Dg l)=(Kv l,0):=by
 obtain⟨a1,a3⟩:=tM h;unfold Eb;rw [xD a1,a3]
theorem un {s:Sg}(h:z_ s=true):C5 (BW s)=(Gw s,true):=by
 obtain⟨a1,a3⟩:=Wg h;unfold C5;rw [xD a1,a3]
section
variable {s:Sd}(h:FG s=true) (hk:∀ c∈s.yj,c.key.n.length<=4096/\c.key.e.length<=4096)
include h hk
theorem a81:FG (L9 s)=true/\DS (L9 s)=DS s:=by
 obtain⟨k1,k2,k3⟩:=jW h;have e1:(s.yj.map G0).map Aj=s.yj.map Aj:=by
  rw [yv];exact xO λc hc=>(Sc (k1 c hc) (hk c hc)).2
 have e2:(s.crls.map Kv).map Dg=s.crls.map Dg:=by
  rw [yv];exact xO λc hc=>(a35 (k2 c hc)).2
 have e3:(s.signers.map Gw).map BW=s.signers.map BW:=by
  rw [yv];exact xO λc hc=>(a0Y (k3 c hc)).2
 have c1:(s.yj.map G0).map O9=s.yj.map O9:=by
  rw [yv];refine xO λc hc=>?_;obtain⟨a,b⟩:=Sc (k1 c hc) (hk c hc);show O9 (G0 c)=O9 c;unfold O9;rw [xD a,xD (k1 c hc),b]
 have c2:(s.crls.map Kv).map O0=s.crls.map O0:=by
  rw [yv];refine xO λc hc=>?_;obtain⟨a,b⟩:=a35 (k2 c hc);show O0 (Kv c)=O0 c;unfold O0;rw [xD a,xD (k2 c hc),b]
 have c3:(s.signers.map Gw).map LU=s.signers.map LU:=by
  rw [yv];refine xO λc hc=>?_;obtain⟨a,b⟩:=a0Y (k3 c hc);show LU (Gw c)=LU c;unfold LU Wj;rw [xD a,xD (k3 c hc),b]
 have eH:CN (L9 s)=CN s:=by
  unfold CN Hw L9;simp only;rw [yv];rfl
 have eV:Ih (L9 s)=Ih s:=by
  unfold Ih L9;simp only;rw [zp];rfl
 have hR:FG (L9 s)=true:=by
  have h0:=h;unfold FG at h0 |-
  simp only [xB] at h0 |-
  obtain⟨⟨⟨⟨r0,r1⟩,r2⟩,r3⟩,⟨o1,o2⟩,o3⟩:=h0;refine⟨⟨⟨⟨?_,?_⟩,?_⟩,?_⟩,⟨?_,?_⟩,?_⟩
  ·obtain⟨t1,t2,t3,t4,t5⟩:=xV r0;refine ae ⟨t1,t2,?_,?_,?_⟩
   ·show(s.yj.map G0).length<=32;rw [aq];exact t3
   ·show(s.crls.map Kv).length<=16;rw [aq];exact t4
   ·show(s.signers.map Gw).length<=16;rw [aq];exact t5
  ·show(s.yj.map G0).all _=true;rw [zp,xH];exact λc hc=>beq_iff_eq.2 (Sc (k1 c hc) (hk c hc)).1
  ·show(s.crls.map Kv).all _=true;rw [zp,xH];exact λc hc=>beq_iff_eq.2 (a35 (k2 c hc)).1
  ·show(s.signers.map Gw).all _=true;rw [zp,xH];exact λc hc=>(a0Y (k3 c hc)).1
  ·show HQ true ((s.yj.map G0).map O9)=true;rw [c1];exact o1
  ·show HQ true ((s.crls.map Kv).map O0)=true;rw [c2];exact o2
  ·show HQ false ((s.signers.map Gw).map LU)=true;rw [c3];exact o3
 refine⟨hR,?_⟩;unfold DS;rw [xD hR,xD h];unfold KQ Ii Ht Ow;rw [eH,eV];show Nd.mk 0 16 true [] [Ay Ad,.mk 2 0 true [] [.mk 0 16 true [] ([.mk 0 2 false (B2 (Ih s)) [],(Dp (CN s)).1,.mk 0 16 true [] (F8 s)]++Ch 0 ((s.yj.map G0).map Aj)++Ch 1 ((s.crls.map Kv).map Dg)++[.mk 0 17 true [] ((s.signers.map Gw).map BW)])]]=_;rw [e1,e2,e3]
omit h hk in
theorem a6t {A R:LN}(hR:E9 R=false):E9 (Ch 0 A++R)=decide (A≠[])/\(if E9 (Ch 0 A++R) then(Ch 0 A++R).drop 1 else Ch 0 A++R)=R/\(A≠[]->(lk (Ch 0 A++R) 0).kids=A):=by
 unfold Ch;by_cases hA:A=[]
 ·exact m185
 ·have hp:=As.2 hA;have e:E9 ([.mk 2 0 true [] A]++R)=true:=by
   unfold E9;rw [xB];exact⟨U,ae (by show 0<(A.length:Int);omega)⟩
  rw [xC hA,e];exact⟨(ae hA).symm,U,λ_=>rfl⟩
omit h hk in
theorem a6s {A R:LN}(hR:E8 R=false):E8 (Ch 1 A++R)=decide (A≠[])/\(if E8 (Ch 1 A++R) then(Ch 1 A++R).drop 1 else Ch 1 A++R)=R/\(A≠[]->(lk (Ch 1 A++R) 0).kids=A):=by
 unfold Ch;by_cases hA:A=[]
 ·exact m185
 ·have hp:=As.2 hA;have e:E8 ([.mk 2 1 true [] A]++R)=true:=by
   unfold E8;rw [xB,xB];exact⟨⟨ae (by simp),U⟩,ae (by show 0<(A.length:Int);omega)⟩
  rw [xC hA,e];exact⟨(ae hA).symm,U,λ_=>rfl⟩
omit hk in
theorem ur:E9 (CD (DS s))=decide (s.yj.map Aj≠[])/\(s.yj.map Aj≠[]->(lk (CD (DS s)) 0).kids=s.yj.map Aj)/\E8 (Ah (DS s))=decide (s.crls.map Dg≠[])/\(s.crls.map Dg≠[]->(lk (Ah (DS s)) 0).kids=s.crls.map Dg)/\BD (DS s)=[.mk 0 17 true [] (s.signers.map BW)]:=by
 have hN:DS s=.mk 0 16 true [] [Ay Ad,.mk 2 0 true [] [KQ s]]:=xD h;have gI:AE (DS s)=KQ s:=by unfold AE;rw [hN];rfl
 have Vc:CD (DS s)=Ch 0 (s.yj.map Aj)++(Ch 1 (s.crls.map Dg)++[Nd.mk 0 17 true [] (s.signers.map BW)]):=by
  unfold CD;rw [gI];show((Ow s++Ch 0 (s.yj.map Aj))++Ch 1 (s.crls.map Dg)++[Nd.mk 0 17 true [] (s.signers.map BW)]).drop 3=_;unfold Ow;simp only [xX,xP,xW,AZ,C3]
 have hLz:E8 [Nd.mk 0 17 true [] (s.signers.map BW)]=false:=rfl;obtain⟨l1,l2,l3⟩:=a6s (A:=s.crls.map Dg) hLz;have hCz:E9 (Ch 1 (s.crls.map Dg)++[Nd.mk 0 17 true [] (s.signers.map BW)])=false:=by
  unfold Ch;split<;>rfl
 obtain⟨m1,m2,m3⟩:=a6t (A:=s.yj.map Aj) hCz;rw [<- Vc] at m1 m2 m3;have hT4:Ah (DS s)=Ch 1 (s.crls.map Dg)++[Nd.mk 0 17 true [] (s.signers.map BW)]:=m2;rw [<- hT4] at l1 l2 l3;have hT5:BD (DS s)=[Nd.mk 0 17 true [] (s.signers.map BW)]:=l2;exact⟨m1,m3,l1,l3,hT5⟩
theorem a1a (hp:(DS s).put.isSome=true):Fm (DS s)=true/\BL (DS s)=L9 s:=by
 obtain⟨k1,k2,k3⟩:=jW h;obtain⟨r0,r1⟩:=a81 h hk;have a6f:(Ai s.type).isSome=true:=(gT h).1;have hN:DS s=.mk 0 16 true [] [Ay Ad,.mk 2 0 true [] [KQ s]]:=xD h;have g0:kd (DS s) 0=Ay Ad:=by rw [hN];rfl
 have g1:kd (DS s) 1=.mk 2 0 true [] [KQ s]:=by rw [hN];rfl
 have gI:AE (DS s)=KQ s:=by unfold AE;rw [g1];rfl
 have i0:kd (KQ s) 0=.mk 0 2 false (B2 (Ih s)) []:=rfl;have i1:kd (KQ s) 1=(Dp (CN s)).1:=rfl;have i2:kd (KQ s) 2=.mk 0 16 true [] (F8 s):=rfl;obtain⟨m1,m3,l1,l3,hT5⟩:=ur h;have hH:CI (DS s)=s.has:=by
  unfold CI;rw [gI,i2];unfold F8;cases s.has<;>rfl
 have hc:(if E9 (CD (DS s)) then(lk (CD (DS s)) 0).kids.map (λk=>(Bb k).1) else [])=s.yj.map G0/\(!E9 (CD (DS s))||(lk (CD (DS s)) 0).kids.all λk=>(Bb k).2 == 0)=true:=by
  rw [m1];by_cases hz:s.yj.map Aj=[]
  ·rw [ah (λk=>k hz)];have:s.yj=[]:=List.map_eq_nil_iff.1 hz;rw [this];exact⟨U,U⟩
  ·rw [ae hz,m3 hz];refine⟨?_,?_⟩
   ·rw [xD U,yv];exact xO λc hc=>by show(Bb (Aj c)).1=_;rw [rH (k1 c hc) (hk c hc)]
   ·show(s.yj.map Aj).all _=true;rw [zp,xH];exact λc hc=>by show((Bb (Aj c)).2 == 0)=true;rw [rH (k1 c hc) (hk c hc)];rfl
 have hl:(if E8 (Ah (DS s)) then(lk (Ah (DS s)) 0).kids.map (λk=>(Eb k).1) else [])=s.crls.map Kv/\(!E8 (Ah (DS s))||(lk (Ah (DS s)) 0).kids.all λk=>(Eb k).2 == 0)=true:=by
  rw [l1];by_cases hz:s.crls.map Dg=[]
  ·rw [ah (λk=>k hz)];have:s.crls=[]:=List.map_eq_nil_iff.1 hz;rw [this];exact⟨U,U⟩
  ·rw [ae hz,l3 hz];refine⟨?_,?_⟩
   ·rw [xD U,yv];exact xO λc hc=>by show(Eb (Dg c)).1=_;rw [vX (k2 c hc)]
   ·show(s.crls.map Dg).all _=true;rw [zp,xH];exact λc hc=>by show((Eb (Dg c)).2 == 0)=true;rw [vX (k2 c hc)];rfl
 have hg:(lk (BD (DS s)) 0).kids=s.signers.map BW:=by rw [hT5];rfl
 have YG:(s.signers.map BW).map (λk=>(C5 k).1)=s.signers.map Gw:=by
  rw [yv];exact xO λc hc=>by show(C5 (BW c)).1=_;rw [un (k3 c hc)]
 have c0:Bm (kd (kd (AE (DS s)) 2) 0)=(s.type,true):=by
  rw [gI,i2,show kd (Nd.mk 0 16 true [] (F8 s)) 0=Ay s.type by unfold F8;cases s.has<;>rfl];exact Sy a6f
 have a8T:(if s.has=true then(kd (kd (kd (AE (DS s)) 2) 1) 0).bytes else [])=s.content:=by
  cases hb:s.has with
  |true =>
   rw [xD U,gI,i2];unfold F8;rw [hb];rfl
  |false =>
   have:=(gT h).2.1;rw [hb] at this;rw [xC (by simp)];exact(xI (this.resolve_left (by simp))).symm
 have hS:BL (DS s)=L9 s:=by
  unfold BL L9;rw [hc.1,hl.1,hg,YG,c0,hH,a8T]
 refine⟨?_,hS⟩;obtain⟨z1,z2⟩:=Qb k3 (gT h).2.2.2.2;have e1:Ih (L9 s)=Ih s/\CN (L9 s)=CN s:=by
  constructor
  ·unfold Ih L9;simp only;rw [zp];rfl
  ·unfold CN Hw L9;simp only;rw [yv];rfl
 have hv:-9223372036854775808<=Ih s/\Ih s<=9223372036854775807:=by unfold Ih;split<;>omega
 have hi:=cK (Ih s) hv.1 hv.2;have hq:xR (KQ s) 4 6=true:=by
  have a1:=lD 0 (s.yj.map Aj);have a2:=lD 1 (s.crls.map Dg);unfold KQ Ii Ht Ow;simp only [xR,Fb,FQ,HS,Fs,aF,aw,ay,xB,a_];refine⟨⟨⟨⟨trivial,trivial⟩,trivial⟩,by omega⟩,by omega⟩
 have hP:J4 (DS s)=true:=by
  unfold J4;rw [hc.2,hl.2,hg,c0,hH,hT5,gI,i2];have e2:xR (Nd.mk 0 16 true [] (F8 s)) 1 2=true:=by unfold F8;cases s.has<;>rfl
  have e3:(!s.has||(zd (kd (Nd.mk 0 16 true [] (F8 s)) 1) 0 true&&decide (((kd (Nd.mk 0 16 true [] (F8 s)) 1).kids.length:Int)=1)&&decide ((kd (kd (Nd.mk 0 16 true [] (F8 s)) 1) 0).cls=0)&&decide ((kd (kd (Nd.mk 0 16 true [] (F8 s)) 1) 0).tag=4)))=true:=by
   unfold F8;cases hb:s.has with
   |true=>rfl
   |false=>rfl
  have e4:(s.signers.map BW).all (λk=>(C5 k).2)=true:=by
   rw [zp,xH];exact λc hc=>by show(C5 (BW c)).2=true;rw [un (k3 c hc)]
  rw [e2,e3,e4];rfl
 unfold Fm;rw [hp,hP,hS,e1.1,e1.2,r0,g0,gI,hq,i0,i1,hi.1,hi.2.1,Sy (show(Ai Ad).isSome=true by kernel_rfl),g1];have t1:decide ((Dp (CN s)).1.wr.1=(Dp (CN s)).1.wr.1)=true:=ae U;have t2:decide (Ih s=Ih s)=true:=ae U;have t3:decide (Ad=Ad)=true:=ae U;have t4:xR (DS s) 2 2=true:=by rw [hN];rfl
 rw [t4];simp only [t1,t2,t3];rfl
end
theorem SY (l:List UInt32):(CV (vL l)).length<=l.length:=by rw [jQ];exact a3M _ _ (MM l)
theorem a3q {α β:Type}{f:α->Nat}{f':β->Nat}{g:β->α}(h:∀ x,f (g x)<=f' x):∀ l:List β,wS f (l.map g)<=wS f' l
 |[]=>aB _
 |x::r=>by have h1:=h x;have h2:=a3q h r;simp only [yy,wS];omega
theorem a6K (c:BU):DV (G0 c)<=DV c:=by
 have h1:=SY c.xU;have h2:=SY c.key.n;have h3:=SY c.key.e;unfold DV G0;simp only [ay];omega
theorem a45 (l:Cl):IZ (Kv l)<=IZ l:=by
 have h:=a3q (f:=KT) (f':=KT) (g:=YT) (λg=>by have:=SY g.xU;unfold KT YT;simp only;omega) l.gone;unfold IZ Kv;simp only;omega
theorem a3x (s:Sg):MV (Gw s)<=MV s:=by
 have h1:=SY s.xU;unfold MV Gw;simp only;split<;>(try simp only [ay])<;>omega
theorem a3y {s:Sd}(h:SdW s):SdW (L9 s):=by
 refine⟨h.ty,h.ct,?_,λc hc=>?_,?_,λc hc=>?_,?_,λc hc=>?_⟩
 ·show(s.yj.map G0).length<=_;rw [aq];exact h.cs
 ·obtain⟨k,hk,rfl⟩:=y'.1 hc;exact xJ (a6K k) (h.csB k hk)
 ·show(s.crls.map Kv).length<=_;rw [aq];exact h.ls
 ·obtain⟨k,hk,rfl⟩:=y'.1 hc;exact xJ (a45 k) (h.lsB k hk)
 ·show(s.signers.map Gw).length<=_;rw [aq];exact h.sg
 ·obtain⟨k,hk,rfl⟩:=y'.1 hc;exact xJ (a3x k) (h.sgB k hk)
theorem a7Z {s:Sd}(h:SdW s) (hr:FG s=true) (hk:∀ c∈s.yj,c.key.n.length<=4096/\c.key.e.length<=4096):SdQ (DS s):=by
 obtain⟨k1,k2,k3⟩:=jW hr;obtain⟨m1,m3,l1,l3,h5⟩:=ur hr;refine⟨xJ (Wv (nj h)) yD,λhc k hm x hx=>?_,λhc k hm=>?_,λk hm=>?_⟩
 ·rw [m3 (by rw [m1] at hc;exact xV hc)] at hm;obtain⟨c,O6,rfl⟩:=y'.1 hm;have e:Ff (F9 (Aj c))=c.exts:=congrArg BU.exts (pQ (k1 c O6) (hk c O6).1 (hk c O6).2).2.2;rw [e] at hx;exact(jF (h.csB c O6)).exB x hx
 ·rw [l3 (by rw [l1] at hc;exact xV hc)] at hm;obtain⟨c,O6,rfl⟩:=y'.1 hm;rw [(tM (k2 c O6)).2];exact ZG (xJ (a45 c) (h.lsB c O6))
 ·rw [h5] at hm;obtain⟨c,O6,rfl⟩:=y'.1 (show k∈s.signers.map BW from hm);obtain⟨e1,e2⟩:=Wg (k3 c O6);exact a4W e1 (Om (h.sgB c O6)) (by rw [e2];exact qk (xJ (a3x c) (h.sgB c O6)))
section
variable {k:Nd}(hz:k.sz<=8000)
include hz
theorem a3p:(Ff (F9 k)).length<=8000/\∀ x∈Ff (F9 k),XtS x:=by
 have h0:Nd.yP (F9 k)<=8000:=by
  have h1:=dV (kd k 0).kids 7;have h2:=d9 (kd k 0);have h3:=eB k 0;unfold F9;omega
 cases he:F9 k with
 |nil=>exact⟨yQ _,λx hx=>by cases hx⟩
 |cons y r =>
  rw [he] at h0;simp only [Nd.yP] at h0;have hK:Nd.yP (FF y)<=8000:=by
   have h1:(y.kids.getD 0 (.mk 0 0 false [] [])).sz<=y.sz:=b_ y 0;have h2:=d9 (y.kids.getD 0 (.mk 0 0 false [] []));unfold FF;omega
  have hl:=bD (FF y);refine⟨by show((FF y).map _).length<=_;rw [aq];omega,λx hx=>?_⟩;obtain⟨q,hq,rfl⟩:=y'.1 (show x∈(FF y).map (λk=>(Bk k).1) from hx);have h1:=bX hq;have h2:=eB q 0;have h3:=bc (kd q 0);have h4:=my (kd q 0);have h5:(Hd q).sz<=q.sz:=b_ q _;have h6:=bc (Hd q);unfold Bk;split
  ·exact⟨by simp only;omega,by simp only;omega⟩
  ·exact⟨by simp,by simp⟩
omit hz in
theorem QU (x:Nd) (h:x.sz<=8000):x.BE.length<=4096:=by
 have h1:=vg x;have h2:=bc x;omega
omit hz in
theorem a98 (x:Nd) (h:x.sz<=8000):(EF x).1.length<=100000/\∀ g∈(EF x).1,g.xU.length<=4096:=by
 have h1:=d9 x;have h2:=bD x.kids;unfold EF;split
 ·refine⟨by rw [aq];omega,λg hg=>?_⟩;obtain⟨q,hq,rfl⟩:=y'.1 hg;have h3:=bX hq;have h4:=eB q 0;exact QU _ xE
 ·exact⟨yQ _,λg hg=>by cases hg⟩
theorem a44:Vq (H8 k):=by
 have h0:=eB k 0;have h2:=eB k 2;have h3:=eB (kd k 0) 2;have h5:=eB (kd k 0) 5;have hb:=bc (kd k 2);obtain⟨n1,n2⟩:=jo (n:=kd (kd k 0) 2) xE;obtain⟨g1,g2⟩:=a98 (kd (kd k 0) 5) xE;refine⟨n1,n2,?_,?_,?_⟩
 ·show(if Sl k then _ else _:List Gn).length<=_;split
  ·exact g1
  ·simp
 ·show ∀ g∈(if Sl k then _ else _:List Gn),_;split
  ·exact g2
  ·intro g hg;cases hg
 ·show((kd k 2).bytes.drop 1).length<=_;rw [aM];omega
omit hz in
theorem a8B (x:Nd) (h:x.sz<=8000):(Es x).1.n.length<=4096/\(Es x).1.e.length<=4096/\(Es x).1.d.length<=4096:=by
 have h1:(Ft x).sz<=x.sz:=b_ x 1;have h2:=bc (Ft x);have h3:=fI ((Ft x).bytes.drop 1);rw [aM] at h3;unfold Es;generalize (xN ((Ft x).bytes.drop 1)).1=r at *;have h4:=eB r 0;have h5:=eB r 1;have h6:=QU (kd r 0) xE;have h7:=QU (kd r 1) xE;unfold Nf
 repeat' split
 all_goals first|exact⟨h6,h7,by simp⟩|exact⟨by simp,by simp,by simp⟩
theorem a9k:CrW (I1 k):=by
 have h0:=eB k 0;have h2:=eB k 2;have h1:=eB (kd k 0) 1;have h3:=eB (kd k 0) 3;have h5:=eB (kd k 0) 5;have h6:=eB (kd k 0) 6;have hb:=bc (kd k 2);obtain⟨n1,n2⟩:=jo (n:=kd (kd k 0) 3) xE;obtain⟨n3,n4⟩:=jo (n:=kd (kd k 0) 5) xE;obtain⟨e1,e2⟩:=a3p hz;obtain⟨q1,q2,q3⟩:=a8B (kd (kd k 0) 6) xE;exact⟨QU (kd (kd k 0) 1) xE,n1,n2,n3,n4,q1,q2,q3,xJ e1 yD,e2,by show((kd k 2).bytes.drop 1).length<=_;rw [aM];omega⟩
theorem a9l (h:(Bb k).2=0):CrK (Bb k).1:=by
 unfold Bb at h |-
 split at h
 ·rename_i h1;rw [xD h1];split at h
  ·rename_i h2;rw [xD h2];obtain⟨a,b⟩:=mW h1 h2;refine⟨a9k hz,λ_=>⟨?_,by rw [b];omega⟩⟩;have e:Aj (I1 k)=_:=xD a;have h3:F_ (I1 k)=kd k 0:=by
    have:F_ (I1 k)=kd (Aj (I1 k)) 0:=by rw [e];rfl
    rw [this,b]
   have h4:=eB k 0;rw [h3];omega
  ·rename_i h2;exact absurd h h2
 ·cases h
theorem a9p (h:(Eb k).2=0):ClK (Eb k).1:=by
 unfold Eb at h |-
 split at h
 ·rename_i h1;rw [xD h1];exact⟨a44 hz,λ_=>by rw [(pS h1).2];omega⟩
 ·cases h
theorem a7W (h:(C5 k).2=true):SgK (C5 k).1:=by
 unfold C5 at h |-
 split at h
 ·rename_i h1;rw [xD h1];exact⟨a3w hz,by rw [(Wi h1).2];omega⟩
 ·cases h
end
section
variable {n:Nd}(hz:n.sz<=8001)
include hz
theorem Wu:Nd.yP (lk (CD n) 0).kids<=8000/\Nd.yP (lk (Ah n) 0).kids<=8000/\Nd.yP (lk (BD n) 0).kids<=8000:=by
 have h1:=eB n 1;have h2:(AE n).sz<=(kd n 1).sz:=eB (kd n 1) 0;have h3:=d9 (AE n);have h4:=dV (AE n).kids 3;have a3:Nd.yP (CD n)<=8000:=by unfold CD;omega
 have a4:Nd.yP (Ah n)<=8000:=by
  have:=dV (CD n) 1;unfold Ah;split<;>omega
 have a5:Nd.yP (BD n)<=8000:=by
  have:=dV (Ah n) 1;unfold BD;split<;>omega
 have b3:=jt (CD n) 0;have b4:=jt (Ah n) 0;have b5:=jt (BD n) 0;have c3:=d9 (lk (CD n) 0);have c4:=d9 (lk (Ah n) 0);have c5:=d9 (lk (BD n) 0);omega
theorem a7Y:SdQ n:=by
 obtain⟨a,b,c⟩:=Wu hz;exact⟨by omega,λ_ k hk=>(a3p (by have:=bX hk;omega)).2,λ_ k hk=>a44 (by have:=bX hk;omega),λk hk=>a4X (by have:=bX hk;omega)⟩
theorem a3z (hp:J4 n=true):Vl (BL n):=by
 obtain⟨a,b,c⟩:=Wu hz;have la:=bD (lk (CD n) 0).kids;have lb:=bD (lk (Ah n) 0).kids;have lc:=bD (lk (BD n) 0).kids;have z1:=eB n 1;have z2:(AE n).sz<=(kd n 1).sz:=eB (kd n 1) 0;have z3:=eB (AE n) 2;have z4:=eB (kd (AE n) 2) 0;have z5:=bc (kd (kd (AE n) 2) 0);have z6:=eB (kd (AE n) 2) 1;have z7:=eB (kd (kd (AE n) 2) 1) 0;have z8:=bc (kd (kd (kd (AE n) 2) 1) 0);unfold J4 at hp;simp only [xB] at hp;obtain⟨⟨⟨⟨⟨_,hc⟩,hl⟩,_⟩,_⟩,hs⟩:=hp;refine⟨?_,?_,?_,?_,?_,?_,?_,?_⟩
 ·show(Bm (kd (kd (AE n) 2) 0)).1.length<=_;have:=lE (kd (kd (AE n) 2) 0).bytes;unfold Bm;split
  ·simp only;omega
  ·simp
 ·show(if CI n then _ else _:yG).length<=_;split
  ·omega
  ·simp
 ·show(if E9 (CD n) then _ else _:List BU).length<=_;split
  ·rw [aq];omega
  ·simp
 ·show ∀ c∈(if E9 (CD n) then _ else _:List BU),CrK c;split
  ·rename_i h;rw [h] at hc;intro c hm;obtain⟨k,hk,rfl⟩:=y'.1 hm;exact a9l (by have:=bX hk;omega) (beq_iff_eq.1 (xH.1 hc k hk))
  ·intro c hm;cases hm
 ·show(if E8 (Ah n) then _ else _:List Cl).length<=_;split
  ·rw [aq];omega
  ·simp
 ·show ∀ c∈(if E8 (Ah n) then _ else _:List Cl),ClK c;split
  ·rename_i h;rw [h] at hl;intro c hm;obtain⟨k,hk,rfl⟩:=y'.1 hm;exact a9p (by have:=bX hk;omega) (beq_iff_eq.1 (xH.1 hl k hk))
  ·intro c hm;cases hm
 ·show((lk (BD n) 0).kids.map λk=>(C5 k).1).length<=_;rw [aq];omega
 ·intro x hm;obtain⟨k,hk,rfl⟩:=y'.1 (show x∈(lk (BD n) 0).kids.map (λk=>(C5 k).1) from hm);exact a7W (by have:=bX hk;omega) (xH.1 hs k hk)
end
theorem a0Z {s:Sg}(h:z_ s=true):vL s.xU=vL (Gw s).xU:=by
 unfold z_ at h;simp only [xB] at h;have h0:=h.1.1.1.1.1;unfold Ez at h0;unfold Gw;by_cases hl:0<(s.Ec.length:Int)
 ·rw [xD hl] at h0;simp only [xD hl];simp only [xB,yN,xL] at h0;have hb:bl (vL s.xU)=0:=by have:=h0.1.2;unfold Gy at this;rw [cT] at this;omega
  rcases B_ (vL s.xU) with h1|h1
  ·rw [h1];rfl
  ·have:=(wh _ h1).2;omega
 ·simp only [xC hl];rw [gL]
theorem Ww (s:Sg) (h:SgW s) (hr:z_ s=true):yq prog 45 [.st s.enc,.st (Gw s).enc] (.b true):=by
 obtain⟨b1,b2,b3,b4,b5,b6,b7⟩:=h;have c1:=iT s.yg xE;have hl:(Gw s).xU.length<=s.xU.length:=by
  unfold Gw;simp only;split
  ·simp
  ·exact SY s.xU
 have c2:=uK s.xU (Gw s).xU xE xE;have e2:B3 (vL s.xU) (vL (Gw s).xU)=0:=by rw [<- a0Z hr];unfold B3;simp
 rw [e2] at c2;have c3:=fF s.signed s.signed xE (λf hf=>xJ (b5 f hf).2.1 xE);have c4:=fF s.yc s.yc xE (λf hf=>xJ (b7 f hf).2.1 xE);rw [ae rfl] at c3 c4;rw [show(Gw s).enc=[.sl 3 At.enc s.yg,.ws (Gw s).xU,.bs s.Ec,.i s.hash,.sl 2 Fe.enc s.signed,.bs s.sig,.sl 2 Fe.enc s.yc] from rfl];generalize (Gw s).xU=w at *;refine an func45 U ntmps45 U (λe=>?_);refine W ?_;refine Bg U U (λ_=>?_) (λh=>absurd U h);refine W ?_;refine Bg U U (λ_=>?_) (λh=>absurd U h);refine W ?_;refine Bg U U (λ_=>?_) (λh=>absurd U h);exact m10
theorem a1b (s t:Sd) (h:SdW s) (h':SdW t) (e0:t.type=s.type) (e1:t.has=s.has) (e2:t.content=s.content) (n3:t.yj.length=s.yj.length) (n4:t.crls.length=s.crls.length) (n5:t.signers.length=s.signers.length) (e3:t.yj.map Lv=s.yj.map Lv) (e4:t.crls.map Ma=s.crls.map Ma)
 (hg:∀ g,g<s.signers.length->yq prog 45 [.st (s.signers.getD g default).enc,.st (t.signers.getD g default).enc] (.b true)):yq prog 13 [.st s.enc,.st t.enc] (.b true):=by
 have a1:=uP s h;have a2:=uP t h';have l1:=h.cs;have l2:=h.ls;have l3:=h.sg;have b1:=fE (s.yj.map Lv) (t.yj.map Lv) (by rw [aq];omega);rw [e3,ae rfl] at b1;have b2:=fE (s.crls.map Ma) (t.crls.map Ma) (by rw [aq];omega);rw [e4,ae rfl] at b2;rw [e3,e4] at a2;refine an func13 U ntmps13 U (λe=>?_);refine W ?_;refine Bg U U (λq=>absurd e0.symm q) (λ_=>?_);refine W ?_;refine Bg U U (λq=>absurd q (by rw [e1];simp)) (λ_=>?_);refine W ?_;refine Bg U U (λq=>absurd e2.symm q) (λ_=>?_);refine W ?_;refine Bg U U (λq=>absurd q xE) (λ_=>?_);refine W ?_;refine Bg U U (λq=>absurd q xE) (λ_=>?_);refine W ?_;refine Ci U (λq=>absurd q xE) (λ_=>?_);refine W ?_;refine Lp (γ:=Nat) (λg=>g<=s.signers.length) (λg=>s.signers.length+1-g) (λg=>[(2,.own 0 0),(3,.own 1 0),(11,.d (.i (g:Int)))]) (λ_=>[(0,.B1 28 (.st s.enc)),(1,.B1 28 (.st t.enc))]) 0 (yQ _) y9 y9 ?_;intro g hgl;refine W ?_;refine Ci U (λq=>?_) (λq=>?_)
 ·have yJ:g<s.signers.length:=by omega
  have b29:g<t.signers.length:=by omega
  have c3:=hg g yJ;refine W ?_;exact m188
 ·exact m10
theorem a56 {s:Sd}(h:SdW s) (hr:FG s=true) (hk:∀ c∈s.yj,c.key.n.length<=4096/\c.key.e.length<=4096):yq prog 13 [.st s.enc,.st (L9 s).enc] (.b true):=by
 obtain⟨k1,k2,k3⟩:=jW hr;refine a1b s (L9 s) h (a3y h) U U U (aq ..) (aq ..) (aq ..) ?_ ?_ (λg hg=>?_)
 ·show(s.yj.map G0).map Lv=_;rw [yv];refine xO λc hc=>?_;obtain⟨a,b⟩:=Sc (k1 c hc) (hk c hc);show Lv (G0 c)=Lv c;unfold Lv;rw [xD a,xD (k1 c hc),b]
 ·show(s.crls.map Kv).map Ma=_;rw [yv];refine xO λc hc=>?_;obtain⟨a,b⟩:=a35 (k2 c hc);show Ma (Kv c)=Ma c;unfold Ma;rw [xD a,xD (k2 c hc),b]
 ·have e:(L9 s).signers.getD g default=Gw (s.signers.getD g default):=by
   show(s.signers.map Gw).getD g default=_;rw [aU (by rw [aq];exact hg),Ba,aU hg]
  have hm:s.signers.getD g default∈s.signers:=by rw [aU hg];exact ax hg
  rw [e];exact Ww _ (qk (h.sgB _ hm)) (k3 _ hm)
theorem QG {s:Sd}(h:SdW s) (hr:FG s=true) (hk:∀ c∈s.yj,c.key.n.length<=4096/\c.key.e.length<=4096) (hw:(DS s).wr.2=0):yq prog 8 [.bs (DS s).wr.1] (.zZ [.st (L9 s).enc,.b true]):=by
 have e:xN (DS s).wr.1=(DS s,0,0):=gu hw;obtain⟨b1,b2⟩:=a1a hr hk (by rw [lY hw];rfl);have c:=vU (DS s).wr.1 (by rw [e];exact a7Z h hr hk) (by rw [e];intro _;show Vl (BL (DS s));rw [b2];exact nj (a3y h));rw [e] at c;simp only at c;rw [xD trivial] at c;unfold sdO at c;rw [xD b1,b2] at c;exact c
theorem a65:SdW kSd:=Ou (by decide +kernel)
theorem Yh:FG kSd=true:=by kernel_rfl
theorem a52:Dp []=(.mk 0 17 true [] [],0):=by
 rcases qn [] with ⟨⟨y,hy,_⟩,_,_⟩|⟨l0,L,h1,h2,h3,h4,h5⟩
 ·cases hy
 ·have e:=h1.eq;subst e;rw [List.perm_nil.1 h2] at h4;exact Prod.ext h4 h5
theorem a66:DS kSd=Yg:=by
 unfold DS;rw [xD Yh];show Nd.mk 0 16 true [] [Ay Ad,.mk 2 0 true [] [.mk 0 16 true [] [.mk 0 2 false (B2 (Ih kSd)) [],(Dp []).1,a8C,a64]]]=Yg;rw [a52,show Ih kSd=1 by kernel_rfl]
theorem R_:yq prog 7 [] (.b true):=by
 obtain⟨B,hw,hp,hl,h1⟩:∃ B:yG,yq prog 15 [.st kSd.enc] (.zZ [.bs B,.i 0])/\yq prog 8 [.bs B] (.zZ [.st kSd.enc,.b true])/\(B.length:Int)=42/\((B.getD 1 0).toNat:Int)=40:=by
  refine⟨knB,(gU kSd (nj a65)).to ?_,?_,a2i,a8A⟩
  ·unfold sdB sdE;rw [xD Yh,xD Yh,a66,tn]
  ·have h:=QG a65 Yh (λc hc=>by cases hc) (by rw [a66,tn]);rw [a66,tn] at h;exact h
 have hr1:yq prog 21 [.st kSd.enc] (.b true):=(iE kSd (nj a65)).to (by rw [Yh]);have Rk:yq prog 21 [.st (Sd.enc ⟨[],false,[],[],[],[]⟩)] (.b false):=(iE _ (nj (Ou (by decide +kernel)))).to (by rw [show FG ⟨[],false,[],[],[],[]⟩=false by kernel_rfl]);have TX:=Pw [49,46,50,46,51] [5,0] yD;have yL:yq prog 23 [.sl 2 Fe.enc [⟨[49,46,50,46,51],[[5,0]]⟩],.s [49,46,50,46,51]] (.zZ [.sl 1 bE [[5,0]],.b true]):=Pz [⟨[49,46,50,46,51],[[5,0]]⟩] [49,46,50,46,51] yD (by intro f hf;rw [zS] at hf;subst hf;exact⟨by decide,by decide⟩);refine an func7 U ntmps7 U (λe=>?_);refine W ?_;refine Pl 0 U ?_;refine W ?_;refine Pl 2 U ?_;refine W ?_;refine Pl 2 U ?_;refine W ?_;refine Bg U U (λ_=>?_) (λh=>absurd hl h);refine W ?_;refine Bg U U (λ_=>?_) (λh=>absurd h1 h);exact m10
instance:Cn prog 7 (type_of% @R_):=⟨@R_⟩
theorem Wx (x y:yG):yq prog 16 [.bs x,.bs y] (.b (decide (x=y))):=by
 exact an func16 U ntmps16 U (λe=>Z)
theorem a1H (b:yG) (hl:b.length<=8000):yq prog 8 [.bs b] (.zZ [.st sd0.enc,.b false])\/∃ t:Sd,yq prog 8 [.bs b] (.zZ [.st t.enc,.b true])/\yq prog 15 [.st t.enc] (.zZ [.bs b,.i 0]):=by
 have hz:(xN b).1.sz<=8001:=xJ (fI b) xE;have c:=vU b (a7Y hz) (a3z hz);by_cases h1:(xN b).2.2=0
 ·rw [xD h1] at c;unfold sdO at c;cases h2:Fm (xN b).1 with
  |false =>
   rw [h2] at c;exact .inl c
  |true =>
   rw [h2] at c;have hp:J4 (xN b).1=true:=by
    have h:=h2;unfold Fm at h;simp only [xB] at h;exact h.1.1.2
   obtain⟨r1,r2⟩:=Wt h2;refine .inr ⟨BL (xN b).1,c,(gU _ (a3z hz hp)).to ?_⟩;unfold sdB sdE;rw [xD r1,xD r1,r2,wO h1]
 ·rw [xC h1] at c;exact .inl c
theorem Uv (s:Sd) (b:yG) (hB:SdD s):yq prog 4 [.st s.enc,.bs b] (.b true):=by
 refine an func4 U ntmps4 U (λe=>?_);refine W ?_;refine Ce U U (a2y s hB) (λd' hd=>?_);obtain⟨v,rfl,hb⟩:=hd;cases v
 ·obtain⟨H3,Ku⟩:=hb U;have hw:=Ou H3;refine W ?_;refine Ci U (λg1=>?_) (λg1=>?_)
  ·exact Z
  have hl:b.length<=8000:=by omega
  have c1:=gU s (nj hw);refine W ?_;have hk:∀ c∈s.yj,c.key.n.length<=4096/\c.key.e.length<=4096:=λc hc=>⟨(jF (hw.csB c hc)).kn,(jF (hw.csB c hc)).ke⟩;refine Jm (γ:=Unit) (λ_=>[(1,.d (.bs b)),(2,.own 0 0)]) (λ_=>[(0,.B1 28 (.st s.enc))]) (λ_=>True) ?_ ?_
  ·refine Ci U (λg2=>?_) (λg2=>?_)
   ·have hr:FG s=true:=by
     cases h:FG s with
     |true=>rfl
     |false=>unfold sdE at g2;rw [h,xC yD] at g2;exact absurd g2 yD
    have V4:(DS s).wr.2=0:=by unfold sdE at g2;rw [xD hr] at g2;exact g2
    have cp:=QG hw hr hk V4;rw [show(DS s).wr.1=sdB s from(xD hr).symm] at cp;have cs:=a56 hw hr hk;generalize L9 s=t at *;exact m170
   ·exact m170
  rintro _ _;rcases a1H b hl with cp|⟨t,cp,cw⟩
  ·exact m10
  ·have cb:=Wx b b;rw [ae rfl] at cb;exact m10
 ·exact Z
end Go.Proofs.YtilafeifbaaagaaGreatDoor
