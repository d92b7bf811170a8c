/- Parts. -/
import Derived.Test.YtilafeifbaaagaaGreatDoorR5
set_option maxRecDepth 100000
set_option maxHeartbeats 8000000
set_option linter.unusedSimpArgs false
set_option linter.unusedVariables false
set_option linter.constructorNameAsVariable false
namespace Go.Proofs.YtilafeifbaaagaaGreatDoor
open Go.Proofs.Tryz
open Go Go.RowKit
theorem m17 {p:Prop}(u:p:=by
 rw [hc];refine W ?_;refine EK 12 U (λhc q1=>?_) (λhc q1=>?_)
 rotate_left
 ·rw [hc];refine W ?_;exact Rt U U (by rw [ah xE];rfl)
 rw [hc];refine W ?_;refine EK 16 U (λhc q2=>?_) (λhc q2=>?_)
 rotate_left
 ·rw [hc];refine W ?_;exact Rt U U (by rw [ah xE];rfl)
 rw [hc];refine W ?_;refine EK 21 U (λhc q3=>?_) (λhc q3=>?_)
 rotate_left
 ·rw [hc];refine W ?_;exact Rt U U (by rw [ah xE];rfl)
 rw [hc];refine W ?_;refine EK 28 U (λhc q4=>?_) (λhc q4=>?_)
 rotate_left
 ·rw [hc];refine W ?_;exact Rt U U (by rw [ah xE];rfl)
 rw [hc];refine W ?_;refine EK 34 U (λhc q5=>?_) (λhc q5=>?_)
 rotate_left
 ·rw [hc];refine W ?_;exact Rt U U (by rw [ah xE];rfl)
 rw [hc];refine W ?_;exact Rt U U (congrArg D.b (y7.2 xE))):p:=u
theorem m26 {p:Prop}(u:p:=by
 rw [By] at Dk hl5;refine W ?_;rw [show(BL n).crls=[] from Dk,show BD n=U from hl5];exact⟨(),by rw [hLd,By];rfl,⟨⟨_,rfl,az⟩,⟨_,rfl,az⟩,⟨_,rfl,az⟩,trivial⟩,⟨_,rfl,MK.v ⟨az,az,az,az,En.z,az,trivial⟩⟩,⟨_,rfl,cQ⟩,trivial⟩):p:=u
theorem m53 {p:Prop}(u:p:=by
 rw [By] at Dk h4d;refine W ?_;rw [show(BL n).yj=[] from Dk,show Ah n=T from h4d];exact⟨(),by rw [hKd,By];rfl,⟨⟨_,rfl,az⟩,⟨_,rfl,az⟩,⟨_,rfl,az⟩,trivial⟩,⟨_,rfl,MK.v ⟨az,az,az,En.z,az,az,trivial⟩⟩,⟨_,rfl,cQ⟩,trivial⟩):p:=u
theorem m57 {p:Prop}(u:p:=by
 refine⟨g+1,by omega,⟨by omega,e2⟩,⟨rfl,rfl,rfl,rfl,rfl,rfl,trivial⟩,?_⟩;rw [e1];exact⟨rfl,rfl,rfl,trivial⟩):p:=u
theorem m62 {p:Prop}(u:p:=by
 induction l with
 |nil=>simp [Nd.yP]
 |cons x l ih=>simp only [xX,Nd.yP,ih];omega):p:=u
theorem m85 {p:Prop}(u:p:=by
 refine W ?_;exact Ev 1 rfl rfl rfl rfl rfl (no (nc (yM.2 ⟨_,hm,by simpa using h4⟩)) _)):p:=u
theorem m92 {p:Prop}(u:p:=by
 rw [Dv];refine W ?_;refine⟨g+1,by omega,⟨by omega,λj hj=>?_⟩,y9,y9⟩;by_cases P7:j=g
 ·subst P7;unfold Bu;rw [q1',q2',ae (p:=j=0) xE];rfl
 ·exact zX j xE):p:=u
theorem m94 {p:Prop}(u:p:=by
 split<;>simp only [Nd.yP,Nd.sz,ay]<;>omega):p:=u
theorem m98 {p:Prop}(u:p:=by
 refine W ?_;refine⟨g+1,by omega,⟨.inr xE,λj hj=>?_⟩,y9,trivial⟩;by_cases P7:j=g
 ·subst P7;exact⟨h2,λ_=>h3⟩
 ·exact ho j xE):p:=u
theorem m118 {p:Prop}(u:p:=by
 split<;>simp only [Nd.sz,Nd.yP,ay]<;>omega):p:=u
theorem m150 {p:Prop}(u:p:=by
 simp only [xR,xB,a_] at this;omega):p:=u
theorem m152 {p:Prop}(u:p:=by
 rw [ai hl,yr,zX,<- yL];simp only [ya,Is,zf];rfl):p:=u
theorem m153 {p:Prop}(u:p:=by
 refine W ?_;exact Rt U U ⟨_,U⟩):p:=u
theorem m169 {p:Prop}(u:p:=by
 refine Rt U U ?_;rw [hN,e0];rfl):p:=u
theorem m198 {p:Prop}(u:p:=by
 refine W ?_;rw [My];refine Bg U U (λh2=>?_) (λh2=>?_)
 ·rw [mv Mz (.inl h2)];exact m10
 refine W ?_;refine Bg U U (λh3=>?_) (λh3=>?_)
 ·rw [mv Mz (.inr ⟨U,h3⟩)];exact m10
 ·exact m98):p:=u
theorem m201 {p:Prop}(u:p:=by
 cases hr:GA (vL k.n) (vL k.e) (vL k.d)
 ·rw [show P0 k=false from hr] at a1;exact m10
 ·rw [show P0 k=true from hr] at a1;exact m10):p:=u
theorem m202 {p:Prop}(u:p:=by
 refine W ?_;refine EK 9 U (λhc q0=>?_) (λhc q0=>?_)
 rotate_left
 ·rw [hc];refine W ?_;exact Rt U U (by rw [ah xE];rfl)
 exact m17):p:=u
theorem m203 {p:Prop}(u:p:=by
 have EW:(c.exts.take (g+1)).map C_=(c.exts.take g).map C_++[C_ (c.exts.getD g default)]:=by rw [ai yJ,y8,yL];rfl
 refine W ?_;refine⟨g+1,by omega,by omega,y9,?_⟩;rw [EW];exact y9):p:=u
theorem m204 {p:Prop}(u:p:=by
 have e1:I4 true p=.mk 0 16 true [] [.mk 0 1 false [255] []]:=by unfold I4 Kg;rw [xD U,xC xE];rfl
 rw [e1];exact m10):p:=u
theorem m207 {p:Prop}(u:p:=by
 rw [xC h1];exact m10):p:=u
abbrev Jv:=@Int.ofNat_le
variable{h:Part}{α:Type}
section
open Go Go.RowKit Go.ChangeShapes Go.WideShapes Go.Lib Go.ChangeAt
def MH (P:Program) (t:TypeId) (sz:Nat) (Q:List D->Prop):Prop :=
 ∀ (n:Nat) {H:Type} (enc:TypeId×Value->H) (W:World) (cs:LV) (x:DataW H×List MemPlace),DataW.trod enc P W 0 (λ_=>true) true n t cs=some x->(x.1.weights P t).all (·<=reachBytes)=true->∃ y:List D,cs.length=sz/\yp y (partOf W) cs/\Q y
section
variable {P:Program}{t e:TypeId}{sz:Nat}{Q Q':List D->Prop}
theorem WW {k:IntKind}(ht:P.underlying t=some (.int k)):MH P t 1 (λy=>∃ i:Int,y=[.v (.int k i)]):=λn H enc W cs x a b=>by
 obtain⟨m,rfl,rfl,hw⟩:=LA ht a;exact⟨[.v (.int k m)],U,.c U (bh (h:=_)) .n,m,U⟩
theorem a88 (ht:P.underlying t=some .bool):MH P t 1 (λy=>∃ i:Bool,y=[.b i]):=λn H enc W cs x a b=>by
 obtain⟨m,rfl,rfl⟩:=DataW.trod_bool ht a;exact⟨[.b m],U,.c U ((cC (h:=_)).2 U) .n,m,U⟩
theorem b09 (ht:P.underlying t=some .string):MH P t 1 (λy=>∃ s:yG,y=[.s s]/\s.length<=140737488355328):=λn H enc W cs x a b=>by
 obtain⟨s,_,⟨e0,hs⟩,_⟩:=Tz (n:=n) ht enc W _ _ a b;cases e0;exact⟨[.s s],U,.c U (bh (h:=_)) .n,s,U,xJ hs yD⟩
theorem EJ.any {R:DI α}{μ:α->Nat}(ho:∀ n,EJ P (n+1) t R sz μ) (n:Nat):EJ P n t R sz μ:=by
 cases n with
 |zero=>intro H enc W cs x h;simp [DataW.trod] at h
 |succ n=>exact ho n
theorem Q8 {R:DI α}{cs:LV}{l:List α}(k:slR R sz h cs l):l.length<=140737488355328/\∀ x∈l,∃ cs,R h cs x:=by
 obtain⟨a,c,rfl,r⟩:=k;refine⟨r.GX,λx hx=>?_⟩;obtain⟨i,hi,e⟩:=BB hx;obtain⟨_,_,_,_,cs,_,_,_,h3⟩:=r.Z' i x (by rw [aH hi,e]);exact⟨cs,h3⟩
abbrev QSl {α:Type}(sz:Nat) (enc:α->List D) (B:α->Prop):List D->Prop:=λy=>∃ l:List α,y=[.sl sz enc l]/\l.length<=140737488355328/\∀ x∈l,B x
theorem qI {enc:α->List D}{B:α->Prop}(hr:MH P e sz Q) (ht:P.underlying t=some (.slice e)) (hc:P.cellsOf e=sz) (CP:0<sz) (hb:0<P.bytesOf e) (hQ:∀ y,Q y->∃ x,y=enc x/\B x):MH P t 1 (QSl sz enc B):=λn H en W cs x a b=>by
 have ho:∀ n,EJ P n e (λh cs x=>IW enc h cs x/\B x) sz (λ_=>0):=λn H en W cs x a b=>by
  obtain⟨y,e1,r,q⟩:=hr n en W cs x a b;obtain⟨x',rfl,hB⟩:=hQ y q;exact⟨x',e1,⟨r,hB⟩,yQ _⟩
 obtain⟨l,_,q,_⟩:=EJ.any (λn=>iY ht hc CP hb (@ho n)) n en W cs x a b;obtain⟨v,rfl,o,d⟩:=Q7 (enc:=enc) (λr=>r.1) q;obtain⟨b1,b2⟩:=Q8 q;exact⟨[.sl sz enc l],U,.c o d .n,l,U,b1,λx hx=>by obtain⟨_,h⟩:=b2 x hx;exact h.2⟩
inductive a0k (P:Program):List Field->Nat->Nat->(List D->Prop)->Prop
 |n {o:Nat}:a0k P [] o o (λy=>y=[])
 |c {f:Field} {r:List Field} {o sz e:Nat} {Q Q':List D->Prop} (ho:f.offset=o) (hc:P.cellsOf f.type=sz) (hr:MH P f.type sz Q) (k:a0k P r (o+sz) e Q'):a0k P (f::r) o e (λy=>∃ a,Q a/\∃ b,Q' b/\y=a++b)
theorem a5d {H:Type}(en:TypeId×Value->H) (W:World) (m:Nat) (cs:LV) {fs:List Field}{o e:Nat}{Q:List D->Prop}(k:a0k P fs o e Q):∀ (xs:List (DataW H×List MemPlace)),cs.length=e->xs.length=fs.length ->
 (∀ (i:Nat) (f:Field),fs[i]?=some f->DataW.trod en P W 0 (λ_=>true) true m f.type ((cs.drop f.offset).take (P.cellsOf f.type))=xs[i]?)->(DataW.weightsEach P (fs.map (·.type)) (xs.map (·.1))).all (·<=reachBytes)=true->∃ y,yp y (partOf W) (cs.drop o)/\Q y:=by
 induction k with
 |n=>intro xs h1 h2 h3 h4;exact⟨[],by rw [<- h1,IN];exact .n,U⟩
 |@c f r o sz e Q Q' ho hc hr k ih =>
  intro xs h1 h2 h3 h4;obtain⟨x,xr,rfl⟩:∃ x xr,xs=x::xr:=by cases xs with|nil=>cases h2|cons x xr=>exact⟨x,xr,rfl⟩
  simp only [yy,DataW.weightsEach,yr,xB] at h4;obtain⟨y0,hl,d0,q0⟩:=hr m en W _ _ (h3 0 f U) h4.1;obtain⟨y1,d1,q1⟩:=ih xr h1 (by simpa using h2) (λi g hg=>h3 (i+1) g hg) h4.2;refine⟨y0++y1,?_,y0,q0,y1,q1,U⟩;have:=yp.app d0 d1;rwa [ho,hc,<- Hj,AG] at this
theorem oB {fs:Array Field}(hf:a0k P fs.toList 0 sz Q) (ht:P.underlying t=some (.struct fs)) (hc:P.cellsOf t=sz):MH P t sz Q:=λn H en W cs x a b=>by
 obtain⟨xs,m,hm,rfl,hl,O2,zX⟩:=DataW.trod_struct ht a;rw [hc] at hl;simp only [DataW.weights,ht] at b;obtain⟨y,d,q⟩:=a5d en W m cs hf xs hl (by simpa using O2) (λi f h=>zX i f (by simpa using h)) b;exact⟨y,hl,d,q⟩
theorem a7r {H:Type}{en:TypeId×Value->H}{W:World}{base:Nat}{v:Value}{d:DataW H}{ps:List MemPlace}{fs:Array Field}(hr:MH P t sz Q) (ht:P.underlying t=some (.struct fs)) (Il:Value.okWide P W .any base t v) (hd:DataW.Trod en P W 0 (λ_=>true) true t v d ps) (hw:(d.weights P t).all (·<=reachBytes)=true) :
 ∃ y,Den (.st y) (partOf W) v/\Q y:=by
 simp only [Value.okWide,ht] at Il;obtain⟨cs,rfl,_,_⟩:=Il;obtain⟨n,hn⟩:=hd;obtain⟨y,_,r,q⟩:=hr n en W _ _ hn hw;exact⟨y,(cA (h:=_)).2 ⟨cs.toList,by simp,r⟩,q⟩
end
theorem dZ:prog.cellsOf 9=1:=by kernel_rfl
theorem iF:prog.cellsOf 3=1:=by kernel_rfl
theorem gc:prog.cellsOf 2=1:=by kernel_rfl
theorem mX:prog.cellsOf 4=1:=by kernel_rfl
theorem fh:prog.cellsOf 49=1:=by kernel_rfl
theorem fx:prog.cellsOf 22=1:=by kernel_rfl
theorem xn:prog.cellsOf 65=1:=by kernel_rfl
theorem jJ:prog.cellsOf 50=1:=by kernel_rfl
theorem rM:prog.cellsOf 60=1:=by kernel_rfl
theorem Ux:prog.cellsOf 53=1:=by kernel_rfl
theorem UA:prog.cellsOf 57=1:=by kernel_rfl
theorem xm:prog.cellsOf 24=1:=by kernel_rfl
theorem UB:prog.cellsOf 25=1:=by kernel_rfl
theorem Uz:prog.cellsOf 26=1:=by kernel_rfl
theorem nQ:prog.cellsOf 237=3:=by kernel_rfl
theorem lq:prog.cellsOf 67=2:=by kernel_rfl
theorem rN:prog.cellsOf 147=3:=by kernel_rfl
theorem nO:prog.cellsOf 156=2:=by kernel_rfl
theorem rL:prog.cellsOf 52=3:=by kernel_rfl
theorem nP:prog.cellsOf 55=11:=by kernel_rfl
theorem rO:prog.cellsOf 59=6:=by kernel_rfl
theorem lp:prog.cellsOf 62=7:=by kernel_rfl
theorem rK:prog.cellsOf 28=6:=by kernel_rfl
theorem lh {n k:Nat}(h:n=k+1):0<n:=by omega
theorem sF:MH prog 22 1 (λy=>∃ l:yG,y=[.bs l]/\l.length<=140737488355328):=λn H en W cs x a b=>by
 obtain⟨l,_,q,_⟩:=Xq n en W _ _ a b;obtain⟨u,c,rfl,r⟩:=q;exact⟨[.bs l],U,.c U ((AU (h:=_)).2 ⟨_,_,U,r⟩) .n,l,U,r.GX⟩
theorem nq:MH prog 49 1 (λy=>∃ l:List UInt32,y=[.ws l]/\l.length<=140737488355328):=λn H en W cs x a b=>by
 obtain⟨l,_,q,_⟩:=EJ.any TA n en W _ _ a b;obtain⟨u,rfl,o,d⟩:=Q7 (enc:=Ie) (λr=>si.1 r) q;exact⟨[.ws l],U,.c o d .n,l,U,(Q8 q).1⟩
abbrev JF:=b09 Tryz.underlying9
abbrev a1p:=WW Tryz.underlying3
abbrev JJ:=WW Tryz.underlying2
abbrev a89:=a88 Tryz.underlying4
theorem uI:MH prog 50 1 (QSl 3 At.enc AtB):=qI (oB (.c U dZ JF (.c U iF a1p (.c U dZ JF .n))) Tryz.underlying237 nQ)
 Tryz.underlying50 nQ yD (lh (k:=39) cq) (by
  rintro _ ⟨_,⟨a,rfl,ha⟩,_,⟨_,⟨b,rfl⟩,_,⟨_,⟨c,rfl,hc⟩,_,rfl,rfl⟩,rfl⟩,rfl⟩;exact⟨⟨a,b,c⟩,U,ha,hc⟩)
theorem a5k:MH prog 65 1 (QSl 1 bE (λl:yG=>l.length<=140737488355328)):=qI sF Tryz.underlying65 fx yD (lh (k:=23) cq) (by rintro _ ⟨l,rfl,h⟩;exact⟨l,U,h⟩)
theorem WX:MH prog 60 1 (QSl 2 Fe.enc FeB):=qI (oB (.c U dZ JF (.c U xn a5k .n)) Tryz.underlying67 lq)
 Tryz.underlying60 lq yD (lh (k:=39) cq) (by
  rintro _ ⟨_,⟨a,rfl,ha⟩,_,⟨_,⟨b,rfl,hb⟩,_,rfl,rfl⟩,rfl⟩;exact⟨⟨a,b⟩,U,ha,hb⟩)
theorem a5e:MH prog 53 1 (QSl 3 Xt.enc XtD):=qI (oB (.c U dZ JF (.c U mX a89 (.c U fx sF .n))) Tryz.underlying147 rN)
 Tryz.underlying53 rN yD (lh (k:=47) cq) (by
  rintro _ ⟨_,⟨a,rfl,ha⟩,_,⟨_,⟨b,rfl⟩,_,⟨_,⟨c,rfl,hc⟩,_,rfl,rfl⟩,rfl⟩,rfl⟩;exact⟨⟨a,b,c⟩,U,ha,hc⟩)
theorem a5i:MH prog 57 1 (QSl 2 Gn.enc (λg:Gn=>g.xU.length<=140737488355328)):=qI (oB (.c U fh nq (.c U gc JJ .n)) Tryz.underlying156 nO)
 Tryz.underlying57 nO yD (lh (k:=31) cq) (by
  rintro _ ⟨_,⟨a,rfl,ha⟩,_,⟨_,⟨b,rfl⟩,_,rfl,rfl⟩,rfl⟩;exact⟨⟨a,b⟩,U,ha⟩)
theorem a1q:MH prog 24 1 (QSl 11 BU.enc CrD):=qI
 (oB (.c U fh nq (.c U iF a1p (.c U jJ uI (.c U jJ uI (.c U gc JJ (.c U gc JJ (.c U rL (oB (.c U fh nq (.c U fh nq (.c U fh nq .n))) Tryz.underlying52 rL) (.c U Ux a5e (.c U fx sF .n))))))))) Tryz.underlying55 nP)
 Tryz.underlying24 nP yD (lh (k:=215) cq) (by
  rintro _ ⟨_,⟨a1,rfl,h1⟩,_,⟨_,⟨a2,rfl⟩,_,⟨_,⟨a3,rfl,h3,NF⟩,_,⟨_,⟨a4,rfl,h4,Is⟩,_,⟨_,⟨a5,rfl⟩,_,⟨_,⟨a6,rfl⟩,_,⟨_,⟨_,⟨k1,rfl,g1⟩,_,⟨_,⟨k2,rfl,g2⟩,_,⟨_,⟨k3,rfl,g3⟩,_,rfl,rfl⟩,rfl⟩,rfl⟩,_,⟨_,⟨a8,rfl,h8,h8'⟩,_,⟨_,⟨a9,rfl,h9⟩,_,rfl,rfl⟩,rfl⟩,rfl⟩,rfl⟩,rfl⟩,rfl⟩,rfl⟩,rfl⟩,rfl⟩;exact⟨⟨a1,a2,a3,a4,a5,a6,⟨k1,k2,k3⟩,a8,a9⟩,U,h1,h3,NF,h4,Is,g1,g2,g3,h8,h8',h9⟩)
theorem a5j:MH prog 25 1 (QSl 6 Cl.enc ClD):=qI
 (oB (.c U iF a1p (.c U jJ uI (.c U gc JJ (.c U gc JJ (.c U UA a5i (.c U fx sF .n)))))) Tryz.underlying59 rO)
 Tryz.underlying25 rO yD (lh (k:=95) cq) (by
  rintro _ ⟨_,⟨a1,rfl⟩,_,⟨_,⟨a2,rfl,h2,ME⟩,_,⟨_,⟨a3,rfl⟩,_,⟨_,⟨a4,rfl⟩,_,⟨_,⟨a5,rfl,h5,MD⟩,_,⟨_,⟨a6,rfl,h6⟩,_,rfl,rfl⟩,rfl⟩,rfl⟩,rfl⟩,rfl⟩,rfl⟩;exact⟨⟨a1,a2,a3,a4,a5,a6⟩,U,h2,ME,h5,MD,h6⟩)
theorem a5f:MH prog 26 1 (QSl 7 Sg.enc a9H):=qI
 (oB (.c U jJ uI (.c U fh nq (.c U fx sF (.c U iF a1p (.c U rM WX (.c U fx sF (.c U rM WX .n))))))) Tryz.underlying62 lp)
 Tryz.underlying26 lp yD (lh (k:=151) cq) (by
  rintro _ ⟨_,⟨a1,rfl,h1,E_⟩,_,⟨_,⟨a2,rfl,h2⟩,_,⟨_,⟨a3,rfl,h3⟩,_,⟨_,⟨a4,rfl⟩,_,⟨_,⟨a5,rfl,h5,MD⟩,_,⟨_,⟨a6,rfl,h6⟩,_,⟨_,⟨a7,rfl,h7,U_⟩,_,rfl,rfl⟩,rfl⟩,rfl⟩,rfl⟩,rfl⟩,rfl⟩,rfl⟩;exact⟨⟨a1,a2,a3,a4,a5,a6,a7⟩,U,h1,E_,h2,h3,h5,MD,h6,h7,U_⟩)
section
variable {H:Type}{enc:TypeId×Value->H}{W:World}{base:Nat}{v:Value}{d:DataW H}{ps:List MemPlace}
theorem PJ (Il:Value.okWide prog W .any base 28 v) (hd:DataW.Trod enc prog W 0 (λ_=>true) true 28 v d ps) (hw:(d.weights prog 28).all (·<=reachBytes)=true) :
 ∃ s:Sd,Den (.st s.enc) (partOf W) v/\SdD s:=by
 obtain⟨y,r,q⟩:=a7r (oB (.c U dZ JF (.c U mX a89 (.c U fx sF (.c U xm a1q (.c U UB a5j (.c U Uz a5f .n)))))) Tryz.underlying28 rK) Tryz.underlying28 Il hd hw;obtain⟨_,⟨a1,rfl,h1⟩,_,⟨_,⟨a2,rfl⟩,_,⟨_,⟨a3,rfl,h3⟩,_,⟨_,⟨a4,rfl,h4,Is⟩,_,⟨_,⟨a5,rfl,h5,MD⟩,_,⟨_,⟨a6,rfl,h6,h6'⟩,_,rfl,rfl⟩,rfl⟩,rfl⟩,rfl⟩,rfl⟩,rfl⟩:=q;exact⟨⟨a1,a2,a3,a4,a5,a6⟩,r,h1,h3,h4,Is,h5,MD,h6,h6'⟩
end
def Xe:List TypeId:=[9,5,3,2,4,278,49,22,65,237,50,67,60,62,26,147,53,52,55,24,156,57,59,25,28]
theorem N4:JM prog Xe=true:=by kernel_rfl
end
theorem lF (a b:List UInt32):yq prog 244 [.ws a,.ws b] (.i (B3 (vL a) (vL b))):=.mk λh vs hT hd=>by
 obtain⟨v,w,rfl,h1,h2⟩:=Zf hd;obtain⟨_,_,rfl,hR⟩:=fY.1 h1;obtain⟨_,_,rfl,hR'⟩:=fY.1 h2;exact(TN hR hR').d (bh (h:=h))
instance:Cn prog 244 (type_of% @lF):=⟨@lF⟩
theorem a26 (n:Nat) (hn:n<18446744073709551616):yq prog 312 [.v (.int .u64 n)] (.ws (CV n)):=.mk λh vs hT hd=>by
 obtain⟨v,rfl,h1⟩:=ll hd;rw [cY.1 h1];exact(XU hn).mono λv h' _ ⟨a,c,e,r⟩=>⟨_,U,by rw [e];exact fY.2 ⟨_,_,U,r⟩⟩
theorem a8' (n:Nat) (hn:n<18446744073709551616):yq prog 278 [.v (.int .u64 n)] (.ws (CV n)):=.mk λh vs hT hd=>by
 obtain⟨v,rfl,h1⟩:=ll hd;rw [cY.1 h1];exact(a5l hn).mono λv h' _ ⟨a,c,e,r⟩=>⟨_,U,by rw [e];exact fY.2 ⟨_,_,U,r⟩⟩
theorem a3K (l:List UInt32):yq prog 311 [.ws l] (.b (decide (vL l % 2=1))):=.mk λh vs hT hd=>by
 obtain⟨v,rfl,h1⟩:=ll hd;obtain⟨a,c,rfl,hR⟩:=fY.1 h1;exact(a5R hR).d ((cC (h:=h)).2 U)
theorem WM (l:List UInt32):yq prog 277 [.ws l] (.b (decide (vL l % 2=1))):=.mk λh vs hT hd=>by
 obtain⟨v,rfl,h1⟩:=ll hd;obtain⟨a,c,rfl,hR⟩:=fY.1 h1;exact(a1g hR).d ((cC (h:=h)).2 U)
abbrev P0 (k:Ky):Bool:=GA (vL k.n) (vL k.e) (vL k.d)
theorem Yd (k:Ky):P0 k=decide (vL k.n % 2=1/\512<=zQ k.n/\zQ k.n<=4096/\vL k.e % 2=1/\2<vL k.e/\zQ k.e<=64/\vL k.d<vL k.n):=by
 unfold P0 GA zQ;rw [cT,cT];exact y7.2 xE
theorem fV (k:Ky):yq prog 242 [.st k.enc] (.b (P0 k)):=by
 have a1:=jm k.n;have a2:=jm k.e;have a3:=a3K k.n;have a4:=a3K k.e;have a5:=a26 2 yD;have a6:=lF k.e (CV 2);have a7:=lF k.d k.n;obtain⟨k1,-,k2,-,-⟩:=jH (vL k.e) (vL (CV 2));obtain⟨-,k3,-,k4,-⟩:=jH (vL k.d) (vL k.n);have v2:=gL 2;rw [Yd];refine an func242 U ntmps242 U (λe=>?_);exact m202
instance:Cn prog 242 (type_of% @fV):=⟨@fV⟩
theorem gq (k:Ky) (h1:k.n.length<=100000) (h2:k.e.length<=100000) (h3:k.d.length<=100000):yq prog 199 [.st k.enc] (.b (P0 k)):=by
 have a1:=gX k.n xE;have a2:=gX k.e xE;have a3:=WM k.n;have a4:=WM k.e;have a5:=a8' 2 yD;have a6:=uK k.e (CV 2) xE (by rw [show(CV 2).length=1 by kernel_rfl];decide);have a7:=uK k.d k.n xE xE;obtain⟨k1,-,k2,-,-⟩:=jH (vL k.e) (vL (CV 2));obtain⟨-,k3,-,k4,-⟩:=jH (vL k.d) (vL k.n);have v2:=gL 2;rw [Yd];refine an func199 U ntmps199 U (λe=>?_);exact m202
instance:Cn prog 199 (type_of% @gq):=⟨@gq⟩
theorem kH (k:Ky) (h1:k.n.length<=4096) (h2:k.e.length<=4096):yq prog 290 [.st k.enc] (.zZ [.bs (HU k.n k.e k.d),.i (Re k.n k.e k.d)]):=by
 have CP:=lP k.n k.e h1 h2;have hwr:=pA h1 h2;have hs1:Nd.yP [Bt k.n,Bt k.e]<=1099511627776:=by simp only [Bw,Nd.sz,Nd.yP,ay] at CP |-;omega
 have a1:=fV k;have a2:=gD k.n h1;have a3:=gD k.e h2;have a4:=@rZ (Bw k.n k.e) xE;rw [hwr] at a4;unfold Bw at a4;unfold HU Re;refine an func290 U ntmps290 U (λe=>?_);exact m201
instance:Cn prog 290 (type_of% @kH):=⟨@kH⟩
theorem iW (k:Ky) (h1:k.n.length<=4096) (h2:k.e.length<=4096) (h3:k.d.length<=4096):yq prog 307 [.st k.enc] (.zZ [.bs (HU k.n k.e k.d),.i (Re k.n k.e k.d)]):=by
 have CP:=lP k.n k.e h1 h2;have a1:=gq k xE xE xE;have a2:=me k.n h1;have a3:=me k.e h2;have a4:=@oI (Bw k.n k.e) xE;unfold Bw at a4;unfold HU Re Bw;refine an func307 U ntmps307 U (λe=>?_);exact m201
instance:Cn prog 307 (type_of% @iW):=⟨@iW⟩
def Nf (n:Nd) (c:Int):Ky×Int :=
 if c=0/\n.cls=0/\n.tag=16/\(n.kids.length:Int)=2/\(n.kids.getD 0 (.mk 0 0 false [] [])).tag=2/\(n.kids.getD 1 (.mk 0 0 false [] [])).tag=2 then
  (if(n.kids.getD 0 (.mk 0 0 false [] [])).Cu=true/\(n.kids.getD 1 (.mk 0 0 false [] [])).Cu=true then(if P0 ⟨(n.kids.getD 0 (.mk 0 0 false [] [])).BE,(n.kids.getD 1 (.mk 0 0 false [] [])).BE,[]⟩=true then(⟨(n.kids.getD 0 (.mk 0 0 false [] [])).BE,(n.kids.getD 1 (.mk 0 0 false [] [])).BE,[]⟩,0) else(⟨[],[],[]⟩,50)) else(⟨[],[],[]⟩,60)) else(⟨[],[],[]⟩,60)
theorem b0o {p:Prop}(u:p:=by
 refine W ?_;refine Bg U U (λh1=>?_) (λh1=>?_)
 ·replace h1:¬ c=0:=h1
  rw [xC xE];refine W ?_;exact Rt U U U
 replace h1:c=0:=by simpa using h1
 refine W ?_;refine Bg U U (λh2=>?_) (λh2=>?_)
 ·rw [xC xE];refine W ?_;exact Rt U U U
 refine W ?_;refine Bg U U (λh3=>?_) (λh3=>?_)
 ·rw [xC xE];refine W ?_;exact Rt U U U
 refine W ?_;refine Bg U U (λh4=>?_) (λh4=>?_)
 ·rw [xC xE];refine W ?_;exact Rt U U U
 refine W ?_;refine Bg U U (λh5=>?_) (λh5=>?_)
 ·rw [xC xE];refine W ?_;exact Rt U U U
 refine W ?_;refine Ci U (λh6=>?_) (λh6=>?_)
 ·rw [xC xE];refine W ?_;exact Rt U U U
 rw [xD xE];refine W ?_;refine Bg U U (λh7=>?_) (λh7=>?_)
 ·have U_:(n.kids.getD 0 (.mk 0 0 false [] [])).Cu=false:=by simpa using h7
  rw [xC (λhh=>by rw [U_] at hh;cases hh.1)];refine W ?_;exact Rt U U U
 refine W ?_;refine Ci U (λh8=>?_) (λh8=>?_)
 ·have h8':(n.kids.getD 1 (.mk 0 0 false [] [])).Cu=false:=by simpa using h8
  rw [xC (λhh=>by rw [h8'] at hh;cases hh.2)];refine W ?_;exact Rt U U U
 have U_:(n.kids.getD 0 (.mk 0 0 false [] [])).Cu=true:=by simpa using h7
 have h8':(n.kids.getD 1 (.mk 0 0 false [] [])).Cu=true:=by simpa using h8
 rw [xD ⟨U_,h8'⟩];refine W ?_;refine Ci U (λh9=>?_) (λh9=>?_)
 ·rw [xC (by simpa using h9)];refine W ?_;exact Rt U U U
 rw [xD (by simpa using h9)];refine W ?_;exact Rt U U U):p:=u
theorem jZ (b:yG):yq prog 264 [.bs b] (.zZ [.st (Nf (xN b).1 (xN b).2.2).1.enc,.i (Nf (xN b).1 (xN b).2.2).2]):=by
 have hz:=XQ b;have a0:=@uG b;generalize (xN b).1=n at *;generalize (xN b).2.2=c at *;generalize (xN b).2.1=c1 at *;have z0:=b_ n 0;have z1:=b_ n 1;have a1:=mF (n.kids.getD 0 (.mk 0 0 false [] [])) xE;have a2:=mF (n.kids.getD 1 (.mk 0 0 false [] [])) xE;have a3:=fV ⟨(n.kids.getD 0 (.mk 0 0 false [] [])).BE,(n.kids.getD 1 (.mk 0 0 false [] [])).BE,[]⟩;unfold Nf;refine an func264 U ntmps264 U (λe=>?_);exact b0o
instance:Cn prog 264 (type_of% @jZ):=⟨@jZ⟩
theorem XP:niT prog 289=true:=by kernel_rfl
theorem a5u:OO prog 289=some ([.int .i64 0],[(0,1)]):=by kernel_rfl
def YQ:Value:=.iface 289 (.agg #[.int .i64 60])
theorem a1Z {ok:Bool}:Fn prog 169 [.bool ok] h [] (λe _ Lo=>(ok=true/\e=.returned (.tuple #[])/\Lo=[])\/(ok=false/\e=.panicked (a1I YQ)/\Lo=[])):=by
 refine aQ func169 U ntmps169 U (λe he=>?_);refine ba [(0,_)] y9 ?_;refine Sr (Ru 2 U (aj (Cs U (λBy=>?_) λBy=>?_)))
 ·refine Rg (aA (bi (cs:=[_]) a5u U U) U ?_);refine aA (de XP U) U ?_;refine JL.panic U ?_;exact⟨_,_,.nil,.inr ⟨by simpa using By,U,U⟩⟩
 exact aO (⟨_,_,_,(df U),.nil,.inl ⟨by simpa using By,U,U⟩⟩)
theorem cy (b:Bool):SS prog 169 [.b b] (λd=>b=true/\d=.v (.tuple #[])) YQ (b=false):=.mk λh vs hT hd=>by
 obtain⟨v,rfl,h1⟩:=ll hd;rw [cC.1 h1];refine Fn.mono a1Z λe h' Lo _ k=>?_;rcases k with ⟨k1,k2,k3⟩|⟨k1,k2,k3⟩
 ·exact⟨k3,.inl ⟨_,_,k2,⟨k1,U⟩,bh (h:=h')⟩⟩
 ·exact⟨k3,.inr ⟨k1,k2⟩⟩
def CA (n:Nd):Bool:=Dq n 3&&decide (((n.bytes.getD 0 0).toNat:Int)=0)
theorem rQ (n:Nd) (hz:n.sz<=1073741824):SS prog 174 [.nd n] (λd=>CA n=true/\d=.bs (n.bytes.drop 1)) YQ (CA n=false):=by
 have hb:=bc n;have hl:(n.bytes.drop 1).length<=1073741824:=by rw [aM];omega
 unfold CA;refine SS.intro func174 U ntmps174 U (λe=>?_);refine W ?_;refine Bg U U (λh1=>?_) (λh1=>?_)
 ·refine W ?_;refine HB U U (cy _) (λhq=>xA (by simpa [h1.1] using hq)) (λd' hd=>?_);obtain⟨h2,rfl⟩:=hd;refine W ?_;exact RtX U U ⟨by simpa [h1.1] using h2,U⟩
 ·refine W ?_;refine HB U U (cy _) (λhq=>xA (by simp [h1])) (λd' hd=>?_);cases hd.1
def FF (x:Nd):LN:=(x.kids.getD 0 (.mk 0 0 false [] [])).kids
def GZ:LN->Bool
 |[]=>true
 |x::_=>decide (x.cls=2)&&decide (x.tag=3)&&decide ((x.kids.length:Int)=1)&&xR (x.kids.getD 0 (.mk 0 0 false [] [])) 1 32&&(FF x).all λk=>(Bk k).2
def Ff:LN->List Xt
 |[]=>[]
 |x::_=>(FF x).map λk=>(Bk k).1
theorem Z8 (l:LN) (hz:Nd.yP l<=1073741824):SS prog 177 [.AX l] (λd=>GZ l=true/\d=.sl 3 Xt.enc (Ff l)) YQ (GZ l=false):=by
 refine SS.intro func177 U ntmps177 U (λe=>?_);cases l with
 |nil =>
  refine W ?_;exact RtX U U ⟨U,U⟩
 |cons x r =>
  have k0:=b_ x 0;have hx:GZ (x::r)=(decide (x.cls=2)&&decide (x.tag=3)&&decide ((x.kids.length:Int)=1)&&xR (x.kids.getD 0 (.mk 0 0 false [] [])) 1 32&&(FF x).all λk=>(Bk k).2):=rfl;have k1:∀ g,((FF x).getD g (.mk 0 0 false [] [])).sz<=1073741824:=λg=>by
   have:=b_ (x.kids.getD 0 (.mk 0 0 false [] [])) g;simp only [Nd.yP] at hz;exact xJ this xE
  refine W ?_;refine Bg U U (λ(h1:x.cls=2)=>?_) (λ(h1:¬ x.cls=2)=>?_)
  rotate_left
  ·refine W ?_;refine HB U U (cy _) (λhq=>xA (by simp [GZ,h1])) (λd' hd=>?_);cases hd.1
  refine W ?_;refine Bg U U (λ(h2:x.tag=3)=>?_) (λ(h2:¬ x.tag=3)=>?_)
  rotate_left
  ·refine W ?_;refine HB U U (cy _) (λhq=>xA (by simp [GZ,h2])) (λd' hd=>?_);cases hd.1
  refine W ?_;refine Bg U U (λ(h3:(x.kids.length:Int)=1)=>?_) (λ(h3:¬ (x.kids.length:Int)=1)=>?_)
  rotate_left
  ·refine W ?_;refine HB U U (cy _) (λhq=>xA (by simp [GZ,h3])) (λd' hd=>?_);cases hd.1
  have NF:(((x::r).getD 0 (.mk 0 0 false [] [])).kids.length:Int)=1:=h3;refine W ?_;refine HB U U (cy _) (λhq=>xA (by have hq:xR (x.kids.getD 0 (.mk 0 0 false [] [])) 1 32=false:=hq;rw [hx,hq];simp)) (λd' hd=>?_);obtain⟨h4,rfl⟩:=hd
  replace h4:xR (x.kids.getD 0 (.mk 0 0 false [] [])) 1 32=true:=h4
  have hB:GZ (x::r)=(FF x).all λk=>(Bk k).2:=by rw [hx,h4,ae h1,ae h2,ae h3];rfl
  have hL:Ff (x::r)=(FF x).map λk=>(Bk k).1:=rfl;have hlen:(FF x).length<=32:=by
   simp only [xR,xB,a_] at h4;show(x.kids.getD 0 (.mk 0 0 false [] [])).kids.length<=32;omega
  rw [hB,hL];refine W ?_;refine Rn (kS 3 Xt.enc) 3 147 U U ?_;refine Lp (γ:=Nat) (λg=>g<=(FF x).length/\((FF x).take g).all (λk=>(Bk k).2)=true) (λg=>(FF x).length+1-g) (λg=>[(3,.row 0),(47,.d (.AX (FF x))),(48,.d (.i ((FF x).length:Int))),(49,.d (.i (g:Int)))])
   (λg=>[(0,.row 147 (.sl 3 Xt.enc (((FF x).take g).map λk=>(Bk k).1)))]) 0 ⟨by omega,U⟩ y9 y9 ?_
  rintro g ⟨hg,zX⟩;have FH:(((FF x).take g).map λk=>(Bk k).1).length<=100:=by rw [aq];have:=xY g (FF x);omega
  have kg:=k1 g;have kk:=dQ ((FF x).getD g (.mk 0 0 false [] []));refine W ?_;refine Ci U (λh5=>?_) (λh5=>?_)
  ·have yJ:g<(FF x).length:=by omega
   have yL:(FF x).getD g (.mk 0 0 false [] [])=(FF x)[g]:=aU yJ;refine W ?_;refine HB U U (cy _) (λhq=>xA (by
    rw [yM];exact⟨(FF x)[g],ax yJ,by rw [<- yL,hq];decide⟩)) (λd' hd=>?_)
   obtain⟨h6,rfl⟩:=hd;have EW:((FF x).take (g+1)).map (λk=>(Bk k).1)=((FF x).take g).map (λk=>(Bk k).1)++[(Bk ((FF x).getD g (.mk 0 0 false [] []))).1]:=by rw [ai yJ,y8,yL];rfl
   have hta:((FF x).take (g+1)).all (λk=>(Bk k).2)=true:=by rw [ai yJ,yr,zX,<- yL];simpa using h6
   refine W ?_;refine⟨g+1,by omega,⟨by omega,hta⟩,y9,?_⟩;rw [EW];exact y9
  ·have CK:(FF x).take g=(FF x):=aD xE;rw [CK] at zX |-
   refine W ?_;exact RtX U U ⟨zX,U⟩
def N8:yG:=[49,46,50,46,56,52,48,46,49,49,51,53,52,57,46,49,46,49,46,49]
def Fu (n:Nd):Nd:=n.kids.getD 0 (.mk 0 0 false [] [])
def Ft (n:Nd):Nd:=n.kids.getD 1 (.mk 0 0 false [] [])
def KP (n:Nd):Bool:=xR n 2 2&&xR (Fu n) 2 2&&Dq (Ft (Fu n)) 5&&decide ((zG (Fu (Fu n))).1=N8)&&CA (Ft n)
def Es (n:Nd):Ky×Int:=Nf (xN ((Ft n).bytes.drop 1)).1 (xN ((Ft n).bytes.drop 1)).2.2
theorem a2j (n:Nd) (hz:n.sz<=1073741824):SS prog 178 [.nd n] (λd=>KP n=true/\d=.zZ [.st (Es n).1.enc,.i (Es n).2]) YQ (KP n=false):=by
 have k0:=b_ n 0;have k1:=b_ n 1;have k2:=b_ (n.kids.getD 0 (.mk 0 0 false [] [])) 1;have k3:=b_ (n.kids.getD 0 (.mk 0 0 false [] [])) 0;have c3:=sT ((n.kids.getD 0 (.mk 0 0 false [] [])).kids.getD 0 (.mk 0 0 false [] [])) xE;have c4:=jZ ((n.kids.getD 1 (.mk 0 0 false [] [])).bytes.drop 1);have hB:KP n=(xR n 2 2&&xR (n.kids.getD 0 (.mk 0 0 false [] [])) 2 2&&Dq ((n.kids.getD 0 (.mk 0 0 false [] [])).kids.getD 1 (.mk 0 0 false [] [])) 5&&decide ((zG ((n.kids.getD 0 (.mk 0 0 false [] [])).kids.getD 0 (.mk 0 0 false [] []))).1=N8)&&CA (n.kids.getD 1 (.mk 0 0 false [] []))):=rfl;have hQ:Es n=Nf (xN ((n.kids.getD 1 (.mk 0 0 false [] [])).bytes.drop 1)).1 (xN ((n.kids.getD 1 (.mk 0 0 false [] [])).bytes.drop 1)).2.2:=rfl;rw [hB,hQ];refine SS.intro func178 U ntmps178 U (λe=>?_);refine W ?_;refine Bg U U (λh1=>?_) (λh1=>?_)
 rotate_left
 ·refine W ?_;refine HB U U (cy _) (λhq=>xA (by rw [h1];rfl)) (λd' hd=>?_);cases hd.1
 refine W ?_;refine Bg U U (λh2=>?_) (λh2=>?_)
 rotate_left
 ·refine W ?_;refine HB U U (cy _) (λhq=>xA (by rw [h2];simp)) (λd' hd=>?_);cases hd.1
 refine W ?_;refine HB U U (cy _) (λhq=>xA (by rw [hq];simp)) (λd' hd=>?_);obtain⟨h3,rfl⟩:=hd;refine W ?_;refine HB U U (cy _) (λhq=>xA (by rw [show decide ((zG ((n.kids.getD 0 (.mk 0 0 false [] [])).kids.getD 0 (.mk 0 0 false [] []))).1=N8)=false from hq];simp)) (λd' hd=>?_);obtain⟨h4,rfl⟩:=hd;refine W ?_;refine HB U U (rQ _ xE) (λhq=>xA (by rw [hq];simp)) (λd' hd=>?_);obtain⟨h5,rfl⟩:=hd;refine W ?_;refine RtX U U ⟨?_,U⟩;rw [h1.1,h2.1,h3,h5,show decide ((zG ((n.kids.getD 0 (.mk 0 0 false [] [])).kids.getD 0 (.mk 0 0 false [] []))).1=N8)=true from h4];rfl
def GG:List yG->List Xt->Bool
 |_,[]=>true
 |seen,x::r=>if EN x≠0 then false else if(seen.any λt=>decide (t=x.zJ))=true then false else if Dy x=true then GG (seen++[x.zJ]) r else false
def D8 (l:List Xt):Bool:=GG [] l&&decide ((l.length:Int)<=32)
structure XtS (x:Xt):Prop where
 o:x.zJ.length<=400000
 v:x.val.length<=100000
theorem vD (l:List Xt) (hl:l.length<=100000) (hB:∀ x∈l,XtS x):yq prog 179 [.sl 3 Xt.enc l] (.b (D8 l)):=by
 have bad:GG [] l=false->yR [.b false]=.b (D8 l):=λh=>by unfold D8;rw [h];rfl
 refine an func179 U ntmps179 U (λe=>?_);refine W ?_;refine Mm U U ?_;refine W ?_;refine Lp (γ:=Nat) (λg=>g<=l.length/\GG [] l=GG ((l.take g).map (·.zJ)) (l.drop g)) (λg=>l.length+1-g) (λg=>[(0,.d (.sl 3 Xt.enc l)),(3,.mp 0),(9,.d (.sl 3 Xt.enc l)),(10,.d (.i (l.length:Int))),(11,.d (.i (g:Int)))]) (λg=>[(0,.set (((l.take g).map (·.zJ)).map MR))]) 0 ⟨by omega,U⟩ y9 y9 ?_;rintro g ⟨hg,hf⟩;refine W ?_;refine Ci U (λh3=>?_) (λh3=>?_)
 ·have yJ:g<l.length:=by omega
  have yL:l.getD g default=l[g]:=aU yJ;have U5:l.drop g=l.getD g default::l.drop (g+1):=by rw [aL yJ,yL]
  have EW:(l.take (g+1)).map (·.zJ)=(l.take g).map (·.zJ)++[(l.getD g default).zJ]:=by rw [ai yJ,y8,yL];rfl
  obtain⟨b1,b2⟩:=hB _ (ax yJ);rw [<- yL] at b1 b2;have c1:=jA (l.getD g default) xE xE;have c2:=tP (l.getD g default) (by have:=fI (l.getD g default).val;omega);rw [U5] at hf;simp only [GG] at hf;refine W ?_;refine Bg U U (λh4=>?_) (λh4=>?_)
  ·rw [xD h4] at hf;refine W ?_;exact Rt U U (bad hf)
  rw [xC (show ¬ EN (l.getD g default)≠0 from λhh=>hh h4)] at hf;refine W ?_;refine aI (yi.look U U U U U U) ?_;refine W ?_;refine Bg U U (λh5=>?_) (λh5=>?_)
  ·rw [xD h5] at hf;refine W ?_;exact Rt U U (bad hf)
  rw [xC (by rw [h5];simp)] at hf;refine W ?_;refine Ci U (λh6=>?_) (λh6=>?_)
  ·rw [xC (by simpa using h6)] at hf;refine W ?_;exact Rt U U (bad hf)
  rw [xD (by simpa using h6)] at hf;exact m75
 ·rw [yw xE] at hf;refine W ?_;exact Rt U U (by unfold D8;rw [hf];rfl)
instance:Cn prog 179 (type_of% @vD):=⟨@vD⟩
structure CrW (c:BU):Prop where
 ser:c.xU.length<=4096
 isu:c.yg.length<=1000000
 Mb:∀ a∈c.yg,a.zJ.length<=1000000/\a.text.length<=1000000
 sub:c.AR.length<=1000000
 T6:∀ a∈c.AR,a.zJ.length<=1000000/\a.text.length<=1000000
 kn:c.key.n.length<=4096
 ke:c.key.e.length<=4096
 kd:c.key.d.length<=4096
 ex:c.exts.length<=100000
 exB:∀ x∈c.exts,XtS x
 sg:c.sig.length<=100000
def F4 (c:BU):Int:=if zQ c.xU=0 then 60 else if 160<zQ c.xU then 60 else if A6 c.hash=0 then 60 else if Bj c.O8≠0 then 60 else if Bj c.NX≠0 then 60 else
 if CW c.yg≠0 then 61 else if CW c.AR≠0 then 61 else if P0 c.key=false then 50 else if 0<zQ c.key.d then 50 else if D8 c.exts=false then 62 else 0
theorem uD (c:BU) (h:CrW c):yq prog 152 [.st c.enc] (.i (F4 c)):=by
 obtain⟨b1,b2,b3,b4,b5,b6,b7,b8,b9,b10,b11⟩:=h;have c1:=iM c.yg b2 b3;have c2:=iM c.AR b4 b5;have c3:=vD c.exts b9 b10;have c4:=fV c.key;unfold F4;exact an func152 U ntmps152 U (λe=>Z)
instance:Cn prog 152 (type_of% @uD):=⟨@uD⟩
def Bc (c:BU):Int:=if(c.sig.length:Int)<1 then 60 else if 512<(c.sig.length:Int) then 60 else F4 c
theorem gF (c:BU) (h:CrW c):yq prog 66 [.st c.enc] (.i (Bc c)):=by
 unfold Bc;exact an func66 U ntmps66 U (λe=>Z)
instance:Cn prog 66 (type_of% @gF):=⟨@gF⟩
theorem Wn {p q:Prop}(k:q) (h:Tg q->p:=by
 intro k
 repeat (refine KX ?_;first
  |refine HA rfl rfl ?_
  |refine JX.s2r rfl rfl rfl rfl rfl rfl ?_
  |refine bm rfl (yi.FJ rfl rfl rfl) ?_)
 exact k.k):p:=h ⟨k⟩
theorem Wp {p q:Prop}(k:q) (h:Tg q->p:=by
 intro k
 repeat (first
  |(refine KL ?_;first
   |refine Al.nil ?_
   |refine R3 rfl rfl ?_
   |(refine a0n ?_;first|refine CaI rfl rfl (by intro h;first|assumption|(apply h<;>(first|assumption|omega|(simp only [Nd.yP,Nd.sz,aF,aw,ay];omega)))) ?_|refine Ca rfl rfl zL ?_)
   |refine aI (yi.pk rfl rfl rfl) ?_
   |refine aI (yi.FJ rfl rfl rfl) ?_)
  |(refine KJ ?_;first
   |refine JD.seq ?_
   |refine JD.region ?_
   |refine JD.skip ?_
   |refine JD.block ?_
   |refine JD.exit ?_
   |refine Ct rfl ?_
   |refine Cf rfl ?_
   |refine Cqt rfl ?_
   |refine Cqf rfl ?_))
 exact k.k):p:=h ⟨k⟩
def JT:yG:=[49,46,50,46,56,52,48,46,49,49,51,53,52,57,46,49,46,49,46,49]
def H5 (l:List Xt):LN:=if l=[] then [] else [.mk 2 3 true [] [.mk 0 16 true [] (l.map C_)]]
def I3 (c:BU) (kb:yG):LN:=[.mk 2 0 true [] [.mk 0 2 false (B2 2) []],Bt c.xU,CE c.hash,AO c.yg,.mk 0 16 true [] [AM c.O8,AM c.NX],AO c.AR,.mk 0 16 true [] [.mk 0 16 true [] [Ay JT,.mk 0 5 false [] []],.mk 0 3 false (0::kb) []]]
def NP (c:BU) (kb:yG):Nd:=.mk 0 16 true [] (I3 c kb++H5 c.exts)
abbrev OZ (k:Ky):yG:=HU k.n k.e k.d
def F_ (c:BU):Nd:=NP c (OZ c.key)
def Aj (c:BU):Nd:=if Bc c=0 then .mk 0 16 true [] [F_ c,CE c.hash,.mk 0 3 false (0::c.sig) []] else DU
theorem a2X (l:LN) (hz:Nd.yP l<=1099511627776):FnO prog 218 33 kN [.AX l] [.i 0,.i 16,.v (.bool true),A1] l:=.mk λh vs hT hd=>by
 obtain⟨v,rfl,h1⟩:=ll hd;obtain⟨a,cc,rfl,hR⟩:=dy.1 h1;have hb:=hR.GX;exact(a1_ hT hR hz).mono λe h' Lo _ ⟨v,he,a',c',xs,e1,e2,e3⟩=>⟨v,he,[.int .i64 0,.int .i64 16,.bool true,.slice none 0 0],a',c',xs,e1,.c U (bh (h:=h')) (.c U (bh (h:=h')) (.c U (bh (h:=h')) (.c U (bh (h:=h')) .n))),e2,e3,hb⟩
theorem dU (t:Int):(AM t).sz<=300:=by
 have h1:=jU t;have h2:=mH t;unfold AM;(repeat' split)<;>simp only [Nd.sz,Nd.yP,ay]<;>omega
theorem ii (h:Int):(CE h).sz<=400:=by
 have:=wu h;have:=dD (Gk h);unfold CE;exact m118
theorem mI {k:Ky}(h1:k.n.length<=4096) (h2:k.e.length<=4096):(OZ k).length<=400000:=by
 show(HU k.n k.e k.d).length<=400000;unfold HU;split
 ·have hw:=pA h1 h2;have hz:=lP k.n k.e h1 h2;have e1:=cU k.n;have e2:=cU k.e;have b1:=kX k.n;have b2:=kX k.e;have hs:(Bw k.n k.e).sz<=40000:=by
   simp only [Bw,Nd.sz,Nd.yP,ay];omega
  have hl:8*(Bw k.n k.e).sz<=400000:=by omega
  cases hp:(Bw k.n k.e).put with
  |none=>simp
  |some t =>
   have:=(dA _ _ _ (aB _) hp).2;simp only [zw];omega
 ·simp
theorem a2H {x:Xt}(h:XtS x):(C_ x).sz<=4600000:=by
 have:=dD x.zJ;have h1:=h.o;have h2:=h.v;unfold C_;split
 ·split<;>simp only [Nd.sz,Nd.yP,ay,aw]<;>omega
 ·simp [DU,Nd.sz,Nd.yP]
theorem a7g (c:BU) (h:CrW c):yq prog 219 [.st c.enc] (.nd (F_ c)):=by
 obtain⟨b1,b2,b3,b4,b5,b6,b7,b8,b9,b10,b11⟩:=h;have c1:=iM c.yg b2 b3;have c2:=iM c.AR b4 b5;have s1:=lI b3;have s2:=lI b5;have s3:=kD c.xU b1;have s4:=dU c.O8;have s5:=dU c.NX;have s6:=ii c.hash;have s7:=mI b6 b7;have s8:(Ay JT).sz<=300:=xJ (dD _) yD;have s9:(B2 2).length<=8:=(cK 2 yD yD).2.2.1;have s10:Nd.yP (c.exts.map C_)<=100000*4600000:=xJ (fL C_ 4600000 c.exts λx hx=>a2H (b10 x hx)) (aT _ b9);have TW:=Wr;have hky:=kH c.key b6 b7;have hN:F_ c=.mk 0 16 true [] (I3 c (OZ c.key)++H5 c.exts):=rfl;refine an func219 U ntmps219 U (λe=>?_);refine Wp ?_;refine Xg pe U U U ?_;refine Cx U U (Rj 2) ?_;refine Wn ?_;refine Cx U U (jG (by simp only [Nd.yP,Nd.sz,ay];omega)) ?_;refine Wn ?_;refine Cx U U (gD c.xU b1) ?_;refine Wn ?_;refine Cx U U (NR c.hash) ?_;refine Wn ?_;refine Cx U U (wI [AM c.O8,AM c.NX] (by simp only [Nd.yP];omega)) ?_;refine Wn ?_;refine Cx U U uU ?_;refine Wn ?_;refine Cx U U (wI [Ay JT,.mk 0 5 false [] []] (by simp only [Nd.yP,Nd.sz,ay];omega)) ?_;refine Wn ?_;refine Cx U U (PG (OZ c.key) xE) ?_;refine Wn ?_;refine Cx U U (wI [.mk 0 16 true [] [Ay JT,.mk 0 5 false [] []],.mk 0 3 false (0::OZ c.key) []] (by simp only [Nd.yP,Nd.sz,ay,aw];omega)) ?_;refine Wn ?_;refine Xco (K:=kN) U U (a2X (I3 c (OZ c.key)) (by simp only [I3,Nd.yP,Nd.sz,ay,aw];omega)) U ?_;refine Wn ?_;refine bI U ?_;refine W ?_;refine Ci U (λh1=>?_) (λh1=>?_)
 ·refine W ?_;refine Rv kN 9 4 33 U U U U U U ?_;refine Lp (γ:=Nat) (λg=>g<=c.exts.length) (λg=>c.exts.length+1-g)
   (λg=>[(2,.own 1 0),(15,.own 8 0),(16,.own 9 0),(86,.d (.sl 3 Xt.enc c.exts)),(87,.d (.i (c.exts.length:Int))),(88,.d (.i (g:Int)))])
   (λg=>[(9,.var 33 [.d (.i 0),.d (.i 16),.d (.v (.bool true)),.d F6,.row 10]),(10,.row 33 (.AX ((c.exts.take g).map C_))),(8,.var 33 [.d (.i 0),.d (.i 16),.d (.v (.bool true)),.d F6,.row 7]),(7,.row 33 (.AX (I3 c (OZ c.key)))),(1,.var 33 [.d (.i 0),.d (.i 0),.d (.b false),.d F6,.d F6])]) 0 xE y9 y9 ?_
  intro g hg;have FH:((c.exts.take g).map C_).length<=100000:=by rw [aq];have:=xY g c.exts;omega
  refine W ?_;refine Ci U (λh2=>?_) (λh2=>?_)
  ·have yJ:g<c.exts.length:=by omega
   have yL:c.exts.getD g default=c.exts[g]:=aU yJ;obtain⟨x1,x2⟩:=b10 _ (ax yJ);rw [<- yL] at x1 x2;have c3:=jA (c.exts.getD g default) xE xE;exact m203
  ·have CK:g=c.exts.length:=by omega
   subst CK;rw [xK];refine Pb 10 U ?_;refine W ?_;refine Kz kN U U U U U U U (by simp [I3]) U U U ?_;refine HA U U ?_;refine bI U ?_;refine Kj 7 U U U U U ?_;refine Pb 7 U ?_;refine W ?_;refine Rt U U ?_;rw [hN];unfold H5;rw [xC (by rintro e;rw [e] at h1;simp at h1)];rfl
 ·have e0:c.exts=[]:=xI xE;refine Pb 7 U ?_;refine W ?_;exact m169
abbrev bk (n:Nd) (i:Nat):Nd:=kd (kd n 0) i
def KC (x:Nd):Bool:=decide (x.cls=2)&&decide (x.tag=0)&&decide ((x.kids.length:Int)=1)&&Dq (kd x 0) 2&&decide ((kd x 0).bytes=[2])
def F9 (n:Nd):LN:=(kd n 0).kids.drop 7
def EH (n:Nd):Bool:=n.put.isSome&&xR n 3 3&&xR (kd n 0) 7 8&&KC (bk n 0)&&((bk n 1).Cu&&decide ((bk n 1).tag=2)&&decide (0<zQ (bk n 1).BE)&&decide (zQ (bk n 1).BE<=160))&&CA (kd n 2)
 && (decide (Ao (bk n 2)≠0)&&decide (Ao (kd n 1)=Ao (bk n 2))&&decide (1<=(((kd n 2).bytes.drop 1).length:Int))&&decide ((((kd n 2).bytes.drop 1).length:Int)<=512))
def AV (n:Nd):Bool:=EH n&&(nameOf (bk n 3)).2&&((nameOf (bk n 5)).2&&xR (bk n 4) 2 2)&&(zC (kd (bk n 4) 0)).2&&(zC (kd (bk n 4) 1)).2&&GZ (F9 n)&&KP (bk n 6)
def I1 (n:Nd):BU:=⟨(bk n 1).BE,Ao (bk n 2),(nameOf (bk n 3)).1,(nameOf (bk n 5)).1,(zC (kd (bk n 4) 0)).1,(zC (kd (bk n 4) 1)).1,(Es (bk n 6)).1,Ff (F9 n),(kd n 2).bytes.drop 1⟩
def I0 (n:Nd):Int:=if(Es (bk n 6)).2=0 then(if D8 (Ff (F9 n))=true then 0 else 62) else(Es (bk n 6)).2
def Pv:BU:=⟨[],0,[],[],0,0,⟨[],[],[]⟩,[],[]⟩
def Bb (n:Nd):BU×Int:=if AV n then(if I0 n=0 then(I1 n,0) else(Pv,I0 n)) else(Pv,60)
theorem VZ {α:Type}(f:α->Nd) (w:α->Nat) (h:∀ x,(f x).sz<=32*w x):∀ l:List α,Nd.yP (l.map f)<=32*wS w l
 |[]=>by simp [Nd.yP]
 |x::r=>by
  have h1:=h x;have h2:=VZ f w h r;simp only [yy,Nd.yP,wS];omega
theorem pb (l:List At):(AO l).sz<=32*wS Iz l+1:=by
 rw [i9];unfold ED;have:=VZ Jc Iz (λa=>by
  have:=PI a;simp only [Jc,Nd.sz,Nd.yP,ay,Iz];omega) l
 split<;>simp only [DU,Nd.sz,Nd.yP,ay]<;>omega
theorem a6A (l:List Xt):Nd.yP (l.map C_)<=32*wS KA l:=VZ C_ KA (λx=>by
 have:=dD x.zJ;unfold C_
 (repeat' split)<;>simp only [DU,Nd.sz,Nd.yP,ay,aw,KA]<;>omega) l
theorem l5 {l:List At}{a:At}(h:a∈l):a.zJ.length+a.text.length<=wS Iz l:=by
 have:=gK Iz h;unfold Iz at *;omega
theorem jF {c:BU}(h:DV c<=12000):CrW c:=by
 unfold DV at h;have h1:=f6 Iz (λa=>by unfold Iz;omega) c.yg;have h2:=f6 Iz (λa=>by unfold Iz;omega) c.AR;have h3:=f6 KA (λa=>by unfold KA;omega) c.exts;exact⟨by omega,by omega,λa ha=>by have:=l5 ha;omega,by omega,λa ha=>by have:=l5 ha;omega,by omega,by omega,by omega,by omega,λx hx=>by
  have:=gK KA hx;unfold KA at *;exact⟨by omega,by omega⟩,by omega⟩
theorem Se {c:BU}(h:DV c<=12000):(F_ c).sz<=900000/\(Aj c).sz<=1000000:=by
 have hw:=jF h;unfold DV at h;have s1:=pb c.yg;have s2:=pb c.AR;have s3:=kD c.xU hw.ser;have s4:=dU c.O8;have s5:=dU c.NX;have s6:=ii c.hash;have s7:=mI hw.kn hw.ke;have s8:(Ay JT).sz<=300:=xJ (dD _) yD;have s9:(B2 2).length<=8:=(cK 2 yD yD).2.2.1;have s10:=a6A c.exts;have e1:Nd.yP (H5 c.exts)<=Nd.yP (c.exts.map C_)+2:=by
  unfold H5;exact m94
 have e2:∀ l r:LN,Nd.yP (l++r)=Nd.yP l+Nd.yP r:=λl r=>by
  exact m62
 have hB:(F_ c).sz<=900000:=by
  unfold F_ NP;simp only [Nd.sz,e2,ay];simp only [I3,Nd.sz,Nd.yP,ay,aw];omega
 refine⟨hB,?_⟩;unfold Aj;split<;>simp only [DU,Nd.sz,Nd.yP,ay,aw]<;>omega
structure CrK (c:BU):Prop where
 w:CrW c
 z:Bc c=0->(F_ c).sz<=900000/\(Aj c).sz<=1000000
theorem a6L {c:BU}(h:DV c<=12000):CrK c:=⟨jF h,λ_=>Se h⟩
theorem kV (c:BU) (h:CrK c):yq prog 121 [.st c.enc] (.zZ [.nd (Aj c),.i (Bc c)]):=by
 have hw:=h.w;have s6:=ii c.hash;have c1:=a7g c hw;have c2:=gF c hw;have hl:=hw.sg;unfold Aj;refine an func121 U ntmps121 U (λe=>?_);refine W ?_;refine Ci U (λh1=>?_) (λh1=>?_)
 ·exact m207
 ·have E_:Bc c=0:=by simpa using h1
  have hs:=(h.z E_).1;rw [xD E_];refine W ?_;exact Rt U U (by simp only [yR,E_])
instance:Cn prog 121 (type_of% @kV):=⟨@kV⟩
def O9 (c:BU):yG:=if Bc c=0 then(Aj c).wr.1 else []
theorem tN (c:BU) (h:CrK c):Mt prog 129 [.st c.enc] (λd=>∃ e:Int,d=.zZ [.bs (O9 c),.i e]):=by
 unfold O9;refine an func129 U ntmps129 U (λe=>?_);refine W ?_;refine Ci U (λh1=>?_) (λh1=>?_)
 ·rw [xC h1];exact m153
 ·have E_:Bc c=0:=by simpa using h1
  have hs:=(h.z E_).2;rw [xD E_];exact m153
theorem gG (c:BU) (h:CrK c):yq prog 51 [.st c.enc] (.bs (O9 c)):=by
 refine an func51 U ntmps51 U (λe=>?_);refine W ?_;refine Ce U U (tN c h) (λd' hd=>?_);obtain⟨e1,rfl⟩:=hd;exact m10
instance:Cn prog 51 (type_of% @gG):=⟨@gG⟩
def HL (s:List UInt32):Bool:=decide (0<zQ s)&&decide (zQ s<=160)
theorem uo (s:List UInt32):yq prog 243 [.ws s] (.b (HL s)):=by
 unfold HL;exact an func243 U ntmps243 U (λe=>Z)
instance:Cn prog 243 (type_of% @uo):=⟨@uo⟩
theorem sM (l:LN) (hz:Nd.yP l<=1099511627776):yq prog 222 [.AX l] (.nd (.mk 0 16 true [] l)):=by
 exact an func222 U ntmps222 U (λe=>Z)
instance:Cn prog 222 (type_of% @sM):=⟨@sM⟩
theorem X':yq prog 222 [.AX []] (.st [.i 0,.i 16,.v (.bool true),F6,F6]):=by
 have h0:=Si 0 16;refine an func222 U ntmps222 U (λe=>?_);exact m194
theorem a1A (l:LN) (hz:Nd.yP l<=1099511627776):FnO prog 222 33 kN [.AX l] [.i 0,.i 16,.v (.bool true),A1] l:=.mk λh vs hT hd=>by
 obtain⟨v,rfl,h1⟩:=ll hd;obtain⟨a,cc,rfl,hR⟩:=dy.1 h1;have hb:=hR.GX;exact(Tv hT hR hz).mono λe h' Lo _ ⟨v,he,a',c',xs,e1,e2,e3⟩=>⟨v,he,[.int .i64 0,.int .i64 16,.bool true,.slice none 0 0],a',c',xs,e1,.c U (bh (h:=h')) (.c U (bh (h:=h')) (.c U (bh (h:=h')) (.c U (bh (h:=h')) .n))),e2,e3,hb⟩
def Bu (l:List Gn) (i:Nat):Bool:=decide (Bj (l.getD i default).at_=0)&&HL (l.getD i default).xU&&(decide (i=0)||decide (0<B3 (vL (l.getD i default).xU) (vL (l.getD (i-1) default).xU)))
def EE (l:List Gn):Bool:=decide (∀ j,j<l.length->Bu l j=true)
def Ke (l:Cl):Int:=if A6 l.hash=0 then 60 else if Bj l.this≠0 then 60 else if Bj l.next≠0 then 60 else if l.next<l.this then 60 else if 1000<(l.gone.length:Int) then 60 else if EE l.gone=false then 60 else if CW l.yg≠0 then 61 else 0
def Gh (l:Cl):Int:=if(l.sig.length:Int)<1 then 60 else if 512<(l.sig.length:Int) then 60 else Ke l
structure Vq (l:Cl):Prop where
 isu:l.yg.length<=1000000
 Mb:∀ a∈l.yg,a.zJ.length<=1000000/\a.text.length<=1000000
 gn:l.gone.length<=100000
 gnB:∀ g∈l.gone,g.xU.length<=4096
 sg:l.sig.length<=100000
variable{l:Cl}
theorem ZG (hw:IZ l<=12000):Vq l:=by
 unfold IZ at hw;have h1:=f6 Iz (λa=>by unfold Iz;omega) l.yg;have h2:=f6 KT (λa=>by unfold KT;omega) l.gone;exact⟨by omega,λa ha=>by have:=l5 ha;omega,by omega,λg hg=>by
  have:=gK KT hg;have e:KT g=1+4*g.xU.length:=rfl;omega,by omega⟩
theorem uB (l:Cl) (hw:Vq l):yq prog 153 [.st l.enc] (.i (Ke l)):=by
 obtain⟨b1,b2,b3,b4,b5⟩:=hw;have c1:=iM l.yg b1 b2;unfold Ke;refine an func153 U ntmps153 U (λe=>?_);refine W ?_;refine Bg U U (λg1=>?_) (λg1=>?_)
 ·rw [xD g1];exact m10
 rw [xC g1];refine W ?_;refine Bg U U (λg2=>?_) (λg2=>?_)
 ·rw [xD g2];exact m10
 rw [xC (by simpa using g2)];refine W ?_;refine Bg U U (λg3=>?_) (λg3=>?_)
 ·rw [xD g3];exact m10
 rw [xC (by simpa using g3)];refine W ?_;refine Bg U U (λg4=>?_) (λg4=>?_)
 ·rw [xD g4];exact m10
 rw [xC g4];refine W ?_;refine Ci U (λg5=>?_) (λg5=>?_)
 ·rw [xD g5];exact m10
 rw [xC g5];refine W ?_;refine Lp (γ:=Nat) (λg=>g<=l.gone.length/\∀ j,j<g->Bu l.gone j=true) (λg=>l.gone.length+1-g)
  (λg=>[(1,.own 0 0),(51,.d (.sl 2 Gn.enc l.gone)),(52,.d (.i (l.gone.length:Int))),(53,.d (.i (g:Int)))]) (λ_=>[(0,.B1 59 (.st l.enc))]) 0 ⟨by omega,λj hj=>by omega⟩ y9 y9 ?_
 rintro g ⟨hg,zX⟩;refine W ?_;refine Ci U (λh3=>?_) (λh3=>?_)
 ·have yJ:g<l.gone.length:=by omega
  have bad:Bu l.gone g=false->EE l.gone=false:=λhb=>ah λhh=>by rw [hh g yJ] at hb;cases hb
  refine W ?_;refine EK 66 U (λhc q1=>?_) (λhc q1=>?_)
  ·rw [hc,xD (bad (by unfold Bu;rw [ah q1];rfl))];exact m10
  rw [hc];refine W ?_;refine EK 72 U (λBO q2=>?_) (λBO q2=>?_)
  ·rw [BO,xD (bad (by unfold Bu;rw [show HL (l.gone.getD g default).xU=false by simpa using BO];simp))];exact m10
  rw [BO];refine W ?_;have q1':decide (Bj (l.gone.getD g default).at_=0)=true:=by simpa using q1
  have q2':HL (l.gone.getD g default).xU=true:=by simpa using BO
  refine EK 75 U (λDv q3=>?_) (λDv q3=>?_)
  ·rw [Dv];have e1:((g:Int)-1).toNat=g-1:=by omega
   refine W ?_;rw [e1];refine Ci U (λq4=>?_) (λq4=>?_)
   ·rw [xD (bad (by unfold Bu;rw [ah (p:=0<B3 _ _) xE,ah (p:=g=0) xE];simp))];exact m10
   ·refine W ?_;refine⟨g+1,by omega,⟨by omega,λj hj=>?_⟩,y9,y9⟩;by_cases P7:j=g
    ·subst P7;unfold Bu;rw [q1',q2',ae (p:=0<B3 _ _) xE];simp
    ·exact zX j xE
  ·exact m92
 ·have ok:EE l.gone=true:=ae λj hj=>zX j xE;rw [xC (by rw [ok];simp)];refine W ?_;refine Ci U (λq5=>?_) (λq5=>?_)
  ·rw [xD q5];exact m10
  ·rw [xC (by simpa using q5)];exact m10
instance:Cn prog 153 (type_of% @uB):=⟨@uB⟩
theorem eo (l:Cl) (hw:Vq l):yq prog 67 [.st l.enc] (.i (Gh l)):=by
 unfold Gh;exact an func67 U ntmps67 U (λe=>Z)
instance:Cn prog 67 (type_of% @eo):=⟨@eo⟩
def GV (g:Gn):Nd:=.mk 0 16 true [] [Bt g.xU,AM g.at_]
def H4 (l:List Gn):LN:=if l=[] then [] else [.mk 0 16 true [] (l.map GV)]
def Mn (l:Cl):LN:=[.mk 0 2 false (B2 1) [],CE l.hash,AO l.yg,AM l.this,AM l.next]
def Ib (l:Cl):Nd:=.mk 0 16 true [] (Mn l++H4 l.gone)
def Dg (l:Cl):Nd:=if Gh l=0 then .mk 0 16 true [] [Ib l,CE l.hash,.mk 0 3 false (0::l.sig) []] else DU
theorem a99 (g:Gn) (h:g.xU.length<=4096):(GV g).sz<=20400:=by
 have h1:=kD g.xU h;have h2:=dU g.at_;simp only [GV,Nd.sz,Nd.yP,ay];omega
theorem RH (h:Vq l):Nd.yP (l.gone.map GV)<=100000*20400 :=
 xJ (fL GV 20400 l.gone λg hg=>a99 g (h.gnB g hg)) (aT _ h.gn)
theorem a6O (h:IZ l<=12000):Nd.yP (Mn l)<=1000000:=by
 unfold IZ at h;have s1:=pb l.yg;have s4:=dU l.this;have s5:=dU l.next;have s6:=ii l.hash;have s9:(B2 1).length<=8:=(cK 1 yD yD).2.2.1;simp only [Mn,Nd.sz,Nd.yP,ay];omega
theorem Sm (h:Vq l):(Ib l).sz<=3000000000/\Nd.yP (Mn l)<=310000000:=by
 have s1:=lI h.Mb;have s4:=dU l.this;have s5:=dU l.next;have s6:=ii l.hash;have s9:(B2 1).length<=8:=(cK 1 yD yD).2.2.1;have s10:=RH h;have e1:Nd.yP (H4 l.gone)<=Nd.yP (l.gone.map GV)+1:=by
  unfold H4;exact m94
 have e2:∀ l r:LN,Nd.yP (l++r)=Nd.yP l+Nd.yP r:=λl r=>by
  exact m62
 have hK:Nd.yP (Mn l)<=310000000:=by
  simp only [Mn,Nd.sz,Nd.yP,ay];omega
 refine⟨?_,hK⟩;unfold Ib;simp only [Nd.sz,e2,ay];omega
theorem a1G (l:Cl) (hw:Vq l):yq prog 223 [.st l.enc] (.nd (Ib l)):=by
 have hs:=Sm hw;have hg:=RH hw;obtain⟨b1,b2,b3,b4,b5⟩:=hw;have c1:=iM l.yg b1 b2;have TW:=X';have hN:Ib l=.mk 0 16 true [] (Mn l++H4 l.gone):=rfl;refine an func223 U ntmps223 U (λe=>?_);refine Wp ?_;refine Xg pe U U U ?_;refine Cx U U (Rj 1) ?_;refine Wn ?_;refine Cx U U (NR l.hash) ?_;refine Wn ?_;refine Xco (K:=kN) U U (a1A (Mn l) xE) U ?_;refine Wn ?_;refine bI U ?_;refine W ?_;refine Ci U (λg1=>?_) (λg1=>?_)
 ·refine W ?_;refine Rv kN 7 4 33 U U U U U U ?_;refine Lp (γ:=Nat) (λg=>g<=l.gone.length) (λg=>l.gone.length+1-g)
   (λg=>[(2,.own 1 0),(9,.own 6 0),(10,.own 7 0),(48,.d (.sl 2 Gn.enc l.gone)),(49,.d (.i (l.gone.length:Int))),(50,.d (.i (g:Int)))])
   (λg=>[(7,.var 33 [.d (.i 0),.d (.i 16),.d (.v (.bool true)),.d F6,.row 8]),(8,.row 33 (.AX ((l.gone.take g).map GV))),(6,.var 33 [.d (.i 0),.d (.i 16),.d (.v (.bool true)),.d F6,.row 5]),(5,.row 33 (.AX (Mn l))),(1,.var 33 [.d (.i 0),.d (.i 0),.d (.b false),.d F6,.d F6])]) 0 xE y9 y9 ?_
  intro g My;have FH:((l.gone.take g).map GV).length<=100000:=by rw [aq];have:=xY g l.gone;omega
  refine W ?_;refine Ci U (λh2=>?_) (λh2=>?_)
  ·have yJ:g<l.gone.length:=by omega
   have yL:l.gone.getD g default=l.gone[g]:=aU yJ;have hm:=b4 _ (ax yJ);rw [<- yL] at hm;have n1:=kD (l.gone.getD g default).xU xE;have n2:=dU (l.gone.getD g default).at_;have c3:=gD (l.gone.getD g default).xU xE;have EW:(l.gone.take (g+1)).map GV=(l.gone.take g).map GV++[GV (l.gone.getD g default)]:=by rw [ai yJ,y8,yL];rfl
   refine W ?_;refine Kz kN U U U U U U U JA U U U ?_;refine HA U U ?_;refine bI U ?_;refine Kj 8 U U U U U ?_;refine W ?_;refine⟨g+1,by omega,by omega,y9,?_⟩;rw [EW];exact y9
  ·have CK:g=l.gone.length:=by omega
   subst CK;rw [xK];refine Pb 8 U ?_;refine W ?_;refine Ap kN U U U U U U (by simp [Mn]) U U U U ?_;refine W ?_;refine Pl 5 U ?_;refine W ?_;refine Rt U U ?_;rw [hN];unfold H4;rw [xC (by rintro e;rw [e] at g1;simp at g1)];rfl
 ·have e0:l.gone=[]:=xI xE;refine Pb 5 U ?_;refine W ?_;exact m169
theorem a54 {s:List UInt32}(h:HL s=true):(Bt s).sz<=22:=by
 have h1:=(cU s).2.2;have h2:=cT s;unfold HL at h;rw [xB,a_,a_] at h;have:((D6 (d32 s) s.length:Nat):Int)<=160:=h.2;omega
theorem ZJ (h:IZ l<=12000):(Dg l).sz<=2000000:=by
 unfold Dg;split
 ·rename_i he;have hg:EE l.gone=true/\(l.gone.length:Int)<=1000:=by
   unfold Gh Ke at he;split at he
   ·omega
   split at he
   ·omega
   split at he
   ·omega
   split at he
   ·omega
   split at he
   ·omega
   split at he
   ·omega
   split at he
   ·omega
   split at he
   ·omega
   ·rename_i q1 q2;exact⟨by cases hh:EE l.gone<;>simp_all,by omega⟩
  have hs:=a6O h;have s6:=ii l.hash;have hl:l.sig.length<=12000:=by unfold IZ at h;omega
  have s10:Nd.yP (l.gone.map GV)<=l.gone.length*400:=fL GV 400 l.gone λg YG=>by
   obtain⟨i,hi,rfl⟩:=BB YG;have ha:=xV hg.1 i hi;unfold Bu at ha;rw [aU hi,xB,xB] at ha;have h1:=a54 ha.1.2;have h2:=dU (l.gone[i]).at_;simp only [GV,Nd.sz,Nd.yP,ay];omega
  have s11:l.gone.length*400<=1000*400:=aT _ xE;have e1:Nd.yP (H4 l.gone)<=Nd.yP (l.gone.map GV)+1:=by
   unfold H4;exact m94
  have e2:∀ l r:LN,Nd.yP (l++r)=Nd.yP l+Nd.yP r:=λl r=>by
   exact m62
  have hb:(Ib l).sz<=1500000:=by
   unfold Ib;simp only [Nd.sz,e2,ay];omega
  simp only [Nd.sz,Nd.yP,ay,aw];omega
 ·simp [DU,Nd.sz,Nd.yP]
structure ClK (l:Cl):Prop where
 w:Vq l
 z:Gh l=0->(Dg l).sz<=2000000
theorem a6N (h:IZ l<=12000):ClK l:=⟨ZG h,λ_=>ZJ h⟩
theorem kj (l:Cl) (h:ClK l):yq prog 122 [.st l.enc] (.zZ [.nd (Dg l),.i (Gh l)]):=by
 have hs:=(Sm h.w).1;have s6:=ii l.hash;have c1:=a1G l h.w;have c2:=eo l h.w;have hl:=h.w.sg;unfold Dg;refine an func122 U ntmps122 U (λe=>?_);refine W ?_;refine Ci U (λh1=>?_) (λh1=>?_)
 ·exact m207
 ·have E_:Gh l=0:=by simpa using h1
  rw [xD E_];refine Wp ?_;refine Xg pe U U U ?_;refine Wn ?_;refine Cx U U c1 ?_;refine Wn ?_;refine Cx U U (NR l.hash) ?_;refine Xlt kB (l:=[0]) U U U U U U U U U U ?_;refine Wn ?_;refine Xad kB U U U U U U U JA U U U ?_;refine Cx U U uU ?_;refine Wn ?_;refine Cx U U (sM [Ib l,CE l.hash,.mk 0 3 false (0::l.sig) []] (by simp only [Nd.yP,Nd.sz,ay,aw];omega)) ?_;refine Wn ?_;refine bI U ?_;refine Kj 2 U U U U U ?_;refine W ?_;exact Rt U U (by simp only [yR,E_])
instance:Cn prog 122 (type_of% @kj):=⟨@kj⟩
def O0 (l:Cl):yG:=if Gh l=0 then(Dg l).wr.1 else []
theorem sO (l:Cl) (h:ClK l):Mt prog 134 [.st l.enc] (λd=>∃ e:Int,d=.zZ [.bs (O0 l),.i e]):=by
 unfold O0;refine an func134 U ntmps134 U (λe=>?_);refine W ?_;refine Ci U (λh1=>?_) (λh1=>?_)
 ·rw [xC h1];exact m153
 ·have E_:Gh l=0:=by simpa using h1
  have hs:=h.z E_;rw [xD E_];exact m153
theorem iD (l:Cl) (h:ClK l):yq prog 53 [.st l.enc] (.bs (O0 l)):=by
 refine an func53 U ntmps53 U (λe=>?_);refine W ?_;refine Ce U U (sO l h) (λd' hd=>?_);obtain⟨e1,rfl⟩:=hd;exact m10
instance:Cn prog 53 (type_of% @iD):=⟨@iD⟩
def HY (k:Nd):Bool:=xR k 2 2&&(kd k 0).Cu&&(zC (kd k 1)).2&&decide ((kd k 0).tag=2)
def Pj (k:Nd):Gn:=⟨(kd k 0).BE,(zC (kd k 1)).1⟩
def FV (n:Nd):Bool:=xR n 1 1000&&n.kids.all HY
def EF (n:Nd):List Gn×Bool:=if FV n then(n.kids.map Pj,true) else([],false)
def Sl (n:Nd):Bool:=decide (((kd n 0).kids.length:Int)=6)
def H8 (n:Nd):Cl:=⟨Ao (bk n 1),(nameOf (bk n 2)).1,(zC (bk n 3)).1,(zC (bk n 4)).1,if Sl n then(EF (bk n 5)).1 else [],(kd n 2).bytes.drop 1⟩
def Vj (n:Nd):Bool:=n.put.isSome&&xR n 3 3&&xR (kd n 0) 5 6&&(decide ((kd n 2).cls=0)&&decide ((kd n 2).tag=3)&&decide ((((kd n 2).bytes.getD 0 0).toNat:Int)=0))
def Lu (n:Nd):Bool:=Vj n&&((bk n 0).AA&&decide ((bk n 0).tag=2)&&decide ((bk n 0).D7=1)&&(nameOf (bk n 2)).2&&(zC (bk n 3)).2&&(zC (bk n 4)).2&&decide (Ao (kd n 1)=Ao (bk n 1)))
def Gg (n:Nd):Bool:=Lu n&&(!Sl n||FV (bk n 5))&&decide (Gh (H8 n)=0)
def cl0:Cl:=⟨0,[],0,0,[],[]⟩
def Eb (n:Nd):Cl×Int:=if Gg n then(H8 n,0) else(cl0,60)
theorem qk {s:Sg}(h:MV s<=12000):SgW s:=by
 unfold MV at h;have h1:=f6 Iz (λa=>by unfold Iz;omega) s.yg;have h2:=Z7 (l:=s.signed) xE;have h3:=Z7 (l:=s.yc) xE;exact⟨by omega,λa ha=>by have:=l5 ha;omega,by omega,by omega,h2.2,by omega,h3.2⟩
theorem Om {s:Sg}(h:MV s<=12000):(BW s).sz<=1000000:=by
 have hw:=qk h;unfold MV at h;have s1:=pb s.yg;have s2:=kD s.xU hw.ser;have s3:=tB s.hash;have s4:=ii s.hash;have s5:=jR s.signed;have s6:=jR s.yc;have i3:(B2 3).length<=8:=(cK 3 yD yD).2.2.1;have i1:(B2 1).length<=8:=(cK 1 yD yD).2.2.1;have iv:(B2 (DH s)).length<=8:=by unfold DH;split<;>assumption
 have V4:(BJ s).sz<=500000:=by
  unfold BJ;exact m118
 have o1:∀ t,Nd.yP (F5 t s.signed)<=26*fW s.signed+1:=λt=>by
  unfold F5 Et;exact m118
 have o2:∀ t,Nd.yP (F5 t s.yc)<=26*fW s.yc+1:=λt=>by
  unfold F5 Et;exact m118
 have e2:∀ l r:LN,Nd.yP (l++r)=Nd.yP l+Nd.yP r:=λl r=>by
  exact m62
 have p1:=o1 0;have p2:=o2 1;unfold BW;split
 ·simp only [FL,GC,Nd.sz,Nd.yP,e2,ay];omega
 ·simp [DU,Nd.sz,Nd.yP]
def LU (s:Sg):yG:=if Wj s≠0 then [] else(BW s).wr.1
structure SgK (s:Sg):Prop where
 w:SgW s
 z:(BW s).sz<=1000000
theorem a4Y {s:Sg}(h:MV s<=12000):SgK s:=⟨qk h,Om h⟩
theorem iC (s:Sg) (h:SgK s):yq prog 56 [.st s.enc] (.bs (LU s)):=by
 have hz:=h.z;have hc:=f9 s h.w;unfold LU;exact an func56 U ntmps56 U (λe=>Z)
instance:Cn prog 56 (type_of% @iC):=⟨@iC⟩
def HQ (st:Bool) (l:List yG):Bool:=decide (∀ j,j<l.length-1->¬ 0<Go.Lib.compareBytes (l.getD j []) (l.getD (j+1) [])/\(st=true->¬ Go.Lib.compareBytes (l.getD j []) (l.getD (j+1) [])=0))
theorem jq  [Inhabited α] (f:α->yG) {l:List α}{i:Nat}(h:i<l.length):(l.map f).getD i []=f (l.getD i default):=by
 rw [aU (by rw [aq];exact h),Ba,aU h]
theorem mv  [Inhabited α] {f:α->yG}{st:Bool}{l:List α}{g:Nat}(hg:g+1<l.length) (h:0<Go.Lib.compareBytes (f (l.getD g default)) (f (l.getD (g+1) default))\/st=true/\Go.Lib.compareBytes (f (l.getD g default)) (f (l.getD (g+1) default))=0):HQ st (l.map f)=false:=by
 refine ah λhh=>?_;have:=hh g (by rw [aq];omega);rw [jq f xE,jq f hg] at this;rcases h with h|h
 ·exact this.1 h
 ·exact this.2 h.1 h.2
theorem sQ  [Inhabited α] {f:α->yG}{st:Bool}{l:List α}(h:∀ j,j+1<l.length->¬ 0<Go.Lib.compareBytes (f (l.getD j default)) (f (l.getD (j+1) default))/\(st=true->¬ Go.Lib.compareBytes (f (l.getD j default)) (f (l.getD (j+1) default))=0)):HQ st (l.map f)=true:=by
 refine ae λj hj=>?_;rw [aq] at hj;rw [jq f xE,jq f xE];exact h j xE
theorem ku (l:List BU) (hl:l.length<=1073741824) (hB:∀ c∈l,CrK c):yq prog 69 [.sl 11 BU.enc l,KU 51,.b true] (.b (HQ true (l.map O9))):=by
 refine an func69 U ntmps69 U (λe=>?_);refine W ?_;refine Lp (γ:=Nat) (λg=>(g=0\/g+1<=l.length)/\∀ j,j<g->¬ 0<Go.Lib.compareBytes (O9 (l.getD j default)) (O9 (l.getD (j+1) default))/\(true=true->¬ Go.Lib.compareBytes (O9 (l.getD j default)) (O9 (l.getD (j+1) default))=0)) (λg=>l.length+1-g) (λg=>[(0,.d (.sl 11 BU.enc l)),(1,.d (KU 51)),(2,.d (.b true)),(7,.d (.i ((g:Int)+1)))]) (λ_=>[]) 0 ⟨.inl U,λj hj=>by omega⟩ y9 trivial ?_;rintro g ⟨hg,ho⟩;refine W ?_;refine Ci U (λh=>?_) (λh=>?_)
 ·have My:((g:Int)+1-1).toNat=g:=by omega
  have Mz:g+1<l.length:=by omega
  have c1:=gG (l.getD ((g:Int)+1-1).toNat default) (by rw [My,aU (show g<l.length by omega)];exact hB _ (ax _));have c2:=gG (l.getD (g+1) default) (by rw [aU Mz];exact hB _ (ax _));exact m198
 ·rw [sQ λj hj=>ho j xE];exact m10
theorem km (l:List Cl) (hl:l.length<=1073741824) (hB:∀ c∈l,ClK c):yq prog 70 [.sl 6 Cl.enc l,KU 53,.b true] (.b (HQ true (l.map O0))):=by
 refine an func70 U ntmps70 U (λe=>?_);refine W ?_;refine Lp (γ:=Nat) (λg=>(g=0\/g+1<=l.length)/\∀ j,j<g->¬ 0<Go.Lib.compareBytes (O0 (l.getD j default)) (O0 (l.getD (j+1) default))/\(true=true->¬ Go.Lib.compareBytes (O0 (l.getD j default)) (O0 (l.getD (j+1) default))=0)) (λg=>l.length+1-g) (λg=>[(0,.d (.sl 6 Cl.enc l)),(1,.d (KU 53)),(2,.d (.b true)),(7,.d (.i ((g:Int)+1)))]) (λ_=>[]) 0 ⟨.inl U,λj hj=>by omega⟩ y9 trivial ?_;rintro g ⟨hg,ho⟩;refine W ?_;refine Ci U (λh=>?_) (λh=>?_)
 ·have My:((g:Int)+1-1).toNat=g:=by omega
  have Mz:g+1<l.length:=by omega
  have c1:=iD (l.getD ((g:Int)+1-1).toNat default) (by rw [My,aU (show g<l.length by omega)];exact hB _ (ax _));have c2:=iD (l.getD (g+1) default) (by rw [aU Mz];exact hB _ (ax _));exact m198
 ·rw [sQ λj hj=>ho j xE];exact m10
theorem kq (l:List Sg) (hl:l.length<=1073741824) (hB:∀ c∈l,SgK c):yq prog 71 [.sl 7 Sg.enc l,KU 56,.b false] (.b (HQ false (l.map LU))):=by
 refine an func71 U ntmps71 U (λe=>?_);refine W ?_;refine Lp (γ:=Nat) (λg=>(g=0\/g+1<=l.length)/\∀ j,j<g->¬ 0<Go.Lib.compareBytes (LU (l.getD j default)) (LU (l.getD (j+1) default))/\(false=true->¬ Go.Lib.compareBytes (LU (l.getD j default)) (LU (l.getD (j+1) default))=0)) (λg=>l.length+1-g) (λg=>[(0,.d (.sl 7 Sg.enc l)),(1,.d (KU 56)),(2,.d (.b false)),(7,.d (.i ((g:Int)+1)))]) (λ_=>[]) 0 ⟨.inl U,λj hj=>by omega⟩ y9 trivial ?_;rintro g ⟨hg,ho⟩;refine W ?_;refine Ci U (λh=>?_) (λh=>?_)
 ·have My:((g:Int)+1-1).toNat=g:=by omega
  have Mz:g+1<l.length:=by omega
  have c1:=iC (l.getD ((g:Int)+1-1).toNat default) (by rw [My,aU (show g<l.length by omega)];exact hB _ (ax _));have c2:=iC (l.getD (g+1) default) (by rw [aU Mz];exact hB _ (ax _));refine W ?_;rw [My];refine Bg U U (λh2=>?_) (λh2=>?_)
  ·rw [mv Mz (.inl h2)];exact m10
  refine W ?_;refine Bg U U (λh3=>?_) (λh3=>?_)
  all_goals
   have hnx:∀ j,j<g+1->¬ 0<Go.Lib.compareBytes (LU (l.getD j default)) (LU (l.getD (j+1) default))/\(false=true->¬ Go.Lib.compareBytes (LU (l.getD j default)) (LU (l.getD (j+1) default))=0):=λj hj=>by
    by_cases P7:j=g
    ·subst P7;exact⟨h2,λh=>by cases h⟩
    ·exact ho j xE
   refine W ?_
   first|exact⟨g+1,by omega,⟨.inr xE,hnx⟩,⟨rfl,rfl,rfl,rfl,trivial⟩,trivial⟩|(refine Ci rfl (λh=>by cases h) (λ_=>?_);refine W ?_;exact⟨g+1,by omega,⟨.inr xE,hnx⟩,⟨rfl,rfl,rfl,rfl,trivial⟩,trivial⟩)
 ·rw [sQ λj hj=>ho j xE];exact m10
instance:Cn prog 69 (type_of% @ku):=⟨@ku⟩
instance:Cn prog 70 (type_of% @km):=⟨@km⟩
instance:Cn prog 71 (type_of% @kq):=⟨@kq⟩
structure SdW (s:Sd):Prop where
 ty:s.type.length<=12000
 ct:s.content.length<=12000
 cs:s.yj.length<=12000
 csB:∀ c∈s.yj,DV c<=12000
 ls:s.crls.length<=12000
 lsB:∀ l∈s.crls,IZ l<=12000
 sg:s.signers.length<=12000
 sgB:∀ x∈s.signers,MV x<=12000
theorem Ou {s:Sd}(h:sdW s<=12000):SdW s:=by
 unfold sdW at h;have h1:=f6 Fx (λa=>by unfold Fx;omega) s.yj;have h2:=f6 Kc (λa=>by unfold Kc;omega) s.crls;have h3:=f6 MV (λa=>by unfold MV;omega) s.signers;refine⟨by omega,by omega,by omega,λc hc=>?_,by omega,λc hc=>?_,by omega,λc hc=>?_⟩
 ·have:=gK Fx hc;unfold Fx at this h;omega
 ·have:=gK Kc hc;unfold Kc at this h;omega
 ·have:=gK MV hc;omega
structure Vl (s:Sd):Prop where
 ty:s.type.length<=1000000
 ct:s.content.length<=1000000
 cs:s.yj.length<=100000
 csB:∀ c∈s.yj,CrK c
 ls:s.crls.length<=100000
 lsB:∀ l∈s.crls,ClK l
 sg:s.signers.length<=100000
 sgB:∀ x∈s.signers,SgK x
theorem nj {s:Sd}(h:SdW s):Vl s:=by
 obtain⟨b1,b2,b3,b4,b5,b6,b7,b8⟩:=h;exact⟨by omega,by omega,by omega,λc hc=>a6L (b4 c hc),by omega,λc hc=>a6N (b6 c hc),by omega,λc hc=>a4Y (b8 c hc)⟩
def Ov (s:Sd):Prop:=(Ai s.type).isSome=true/\(s.has=true\/s.content.length=0)/\s.yj.length<=32/\s.crls.length<=16/\s.signers.length<=16
instance (s:Sd):Decidable (Ov s):=by unfold Ov;infer_instance
def FG (s:Sd):Bool:=decide (Ov s)&&s.yj.all (λc=>Bc c == 0)&&s.crls.all (λc=>Gh c == 0)&&s.signers.all z_&&(HQ true (s.yj.map O9)&&HQ true (s.crls.map O0)&&HQ false (s.signers.map LU))
theorem pX  [Inhabited α] {f:α->Bool}{l:List α}{g:Nat}(hg:g<l.length) (h:(l.take g).all f=true) (h2:f (l.getD g default)=true):(l.take (g+1)).all f=true:=by
 rw [ai hg,yr,h,<- aU hg];simpa using h2
theorem wo  [Inhabited α] {f:α->Bool}{l:List α}{g:Nat}(hg:g<l.length) (h2:f (l.getD g default)=false):l.all f=false:=by
 rw [yM];exact⟨l[g],ax hg,by rw [<- aU hg,h2];decide⟩
theorem iE (s:Sd) (h:Vl s):yq prog 21 [.st s.enc] (.b (FG s)):=by
 obtain⟨b1,b2,b3,b4,b5,b6,b7,b8⟩:=h;have o1:=ku s.yj xE b4;have o2:=km s.crls xE b6;have o3:=kq s.signers xE b8;have o4:=rJ s.type xE;have no:¬ Ov s->FG s=false:=λhn=>by unfold FG;rw [ah hn];simp
 refine an func21 U ntmps21 U (λe=>?_);refine W ?_;refine Bg U U (λg1=>?_) (λg1=>?_)
 ·have hb:FG s=false:=by
   simp [FG,Ov,g1]
  rw [hb];exact m10
 refine W ?_;refine Bg U U (λg2=>?_) (λg2=>have hc:s.has=true\/s.content.length=0:=.inl g2;?_);refine W ?_;refine Bg U U (λg3=>?_) (λg3=>have hc:s.has=true\/s.content.length=0:=.inr xE;?_)
 ·rw [no λ⟨_,r2,_⟩=>by rcases r2 with r2|r2;(· rw [g2] at r2;cases r2);omega];exact m10
 all_goals
  refine W ?_;refine Bg U U (λg4=>?_) (λg4=>?_)
  ·rw [no λ⟨_,_,r,_⟩=>by omega];exact m10
  refine W ?_;refine Bg U U (λg5=>?_) (λg5=>?_)
  ·rw [no λ⟨_,_,_,r,_⟩=>by omega];exact m10
  refine W ?_;refine Ci U (λg6=>?_) (λg6=>?_)
  ·rw [no λ⟨_,_,_,_,r⟩=>by omega];exact m10
  have hb:Ov s:=⟨g1,hc,by omega,by omega,by omega⟩;refine W ?_;refine Lp (γ:=Nat) (λg=>g<=s.yj.length/\(s.yj.take g).all (λc=>Bc c == 0)=true) (λg=>s.yj.length+1-g) (λg=>[(1,.own 0 0),(49,.d (.sl 11 BU.enc s.yj)),(50,.d (.i s.yj.length)),(51,.d (.i (g:Int)))]) (λ_=>[(0,.B1 28 (.st s.enc))]) 0 ⟨by omega,U⟩ y9 y9 ?_;rintro g ⟨hg,ha⟩;refine W ?_;refine Ci U (λh1=>?_) (λh1=>?_)
  ·have yJ:g<s.yj.length:=by omega
   have hm:s.yj.getD g default∈s.yj:=by rw [aU yJ];exact ax _
   have c1:=gF _ (b4 _ hm).w;refine W ?_;refine Ci U (λh2=>?_) (λh2=>?_)
   ·have hb:FG s=false:=by
     have:=wo (f:=λc=>Bc c == 0) yJ (by simpa using h2);unfold FG;rw [this];simp
    rw [hb];exact m10
   ·refine W ?_;exact⟨g+1,by omega,⟨by omega,pX yJ ha (by simpa using h2)⟩,y9,y9⟩
  have Mz:g=s.yj.length:=by omega
  subst Mz;rw [xK] at ha;refine W ?_;refine Lp (γ:=Nat) (λg=>g<=s.crls.length/\(s.crls.take g).all (λc=>Gh c == 0)=true) (λg=>s.crls.length+1-g) (λg=>[(1,.own 0 0),(60,.d (.sl 6 Cl.enc s.crls)),(61,.d (.i s.crls.length)),(62,.d (.i (g:Int)))]) (λ_=>[(0,.B1 28 (.st s.enc))]) 0 ⟨by omega,U⟩ y9 y9 ?_;rintro g ⟨hg,ha2⟩;refine W ?_;refine Ci U (λh1=>?_) (λh1=>?_)
  ·have yJ:g<s.crls.length:=by omega
   have hm:s.crls.getD g default∈s.crls:=by rw [aU yJ];exact ax _
   have c1:=eo _ (b6 _ hm).w;refine W ?_;refine Ci U (λh2=>?_) (λh2=>?_)
   ·have hb:FG s=false:=by
     have:=wo (f:=λc=>Gh c == 0) yJ (by simpa using h2);unfold FG;rw [this];simp
    rw [hb];exact m10
   ·refine W ?_;exact⟨g+1,by omega,⟨by omega,pX yJ ha2 (by simpa using h2)⟩,y9,y9⟩
  have hg2:g=s.crls.length:=by omega
  subst hg2;rw [xK] at ha2;refine W ?_;refine Lp (γ:=Nat) (λg=>g<=s.signers.length/\(s.signers.take g).all z_=true) (λg=>s.signers.length+1-g) (λg=>[(1,.own 0 0),(71,.d (.sl 7 Sg.enc s.signers)),(72,.d (.i s.signers.length)),(73,.d (.i (g:Int)))]) (λ_=>[(0,.B1 28 (.st s.enc))]) 0 ⟨by omega,U⟩ y9 y9 ?_;rintro g ⟨hg,ha3⟩;refine W ?_;refine Ci U (λh1=>?_) (λh1=>?_)
  ·have yJ:g<s.signers.length:=by omega
   have hm:s.signers.getD g default∈s.signers:=by rw [aU yJ];exact ax _
   have c1:=kQ _ (b8 _ hm).w;refine W ?_;refine Ci U (λh2=>?_) (λh2=>?_)
   ·have hb:FG s=false:=by
     have:=wo (f:=z_) yJ (by simpa using h2);unfold FG;rw [this];simp
    rw [hb];exact m10
   ·refine W ?_;exact⟨g+1,by omega,⟨by omega,pX yJ ha3 (by simpa using h2)⟩,y9,y9⟩
  have hg3:g=s.signers.length:=by omega
  subst hg3;rw [xK] at ha3;have hR:FG s=(HQ true (s.yj.map O9)&&HQ true (s.crls.map O0)&&HQ false (s.signers.map LU)):=by
   unfold FG;rw [ae hb,ha,ha2,ha3];simp
  rw [hR];refine W ?_;refine Bg U U (λh7=>?_) (λh7=>?_)
  ·rw [h7];refine W ?_;refine Bg U U (λh8=>?_) (λh8=>?_)
   ·rw [h8];exact m10
   ·rw [h8];exact m10
  ·rw [h7];exact m10
instance:Cn prog 21 (type_of% @iE):=⟨@iE⟩
def Ih (s:Sd):Int:=if s.type=N9/\s.signers.all (λx=>x.Ec.length == 0)=true then 1 else 3
theorem il (s:Sd) (h:Vl s):yq prog 32 [.st s.enc] (.i (Ih s)):=by
 have h7:=h.sg;refine an func32 U ntmps32 U (λe=>?_);refine W ?_;refine Ci U (λh1=>?_) (λh1=>?_)
 ·rw [show Ih s=3 from xC λhh=>h1 hh.1];exact m10
 have ht:s.type=N9:=h1;refine W ?_;refine Lp (γ:=Nat) (λg=>g<=s.signers.length/\(s.signers.take g).all (λx=>x.Ec.length == 0)=true) (λg=>s.signers.length+1-g) (λg=>[(9,.d (.sl 7 Sg.enc s.signers)),(10,.d (.i s.signers.length)),(11,.d (.i (g:Int)))]) (λ_=>[]) 0 ⟨by omega,U⟩ y9 trivial ?_;rintro g ⟨hg,ha⟩;refine W ?_;refine Ci U (λh1=>?_) (λh1=>?_)
 ·have yJ:g<s.signers.length:=by omega
  refine W ?_;refine Ci U (λh2=>?_) (λh2=>?_)
  ·have:=wo (f:=λx:Sg=>x.Ec.length == 0) yJ (by rw [beq_eq_false_iff_ne];omega);rw [show Ih s=3 from xC λhh=>by rw [this] at hh;cases hh.2];exact m10
  ·refine W ?_;exact⟨g+1,by omega,⟨by omega,pX yJ ha (by rw [beq_iff_eq];omega)⟩,y9,trivial⟩
 have Mz:g=s.signers.length:=by omega
 subst Mz;rw [xK] at ha;rw [show Ih s=1 from xD ⟨ht,ha⟩];exact m10
instance:Cn prog 32 (type_of% @il):=⟨@il⟩
def MG:List Int->List Int->List Int
 |acc,[]=>acc
 |acc,x::r=>if(acc.any λt=>decide (t=x))=true then MG acc r else MG (acc++[x]) r
theorem lS (acc:List Int) (x:Int) (r:List Int):MG acc (x::r)=if(acc.any λt=>decide (t=x))=true then MG acc r else MG (acc++[x]) r:=rfl
theorem S4 (acc:List Int):MG acc []=acc:=rfl
theorem tI:∀ (acc r:List Int),(MG acc r).length<=acc.length+r.length
 |acc,[]=>by simp [MG]
 |acc,x::r=>by
  unfold MG;split
  ·have:=tI acc r;simp only [aw];omega
  ·have:=tI (acc++[x]) r;exact m191
def Hw (s:Sd):List Int:=s.signers.map (·.hash)
def CN (s:Sd):LN:=(MG [] (Hw s)).map Dl
theorem RU {s:Sd}(h:s.signers.length<=16):(CN s).length<=16/\Nd.yP (CN s)<=16000:=by
 have h1:=tI [] (Hw s);unfold Hw at h1;simp only [aq,ay] at h1;have h2:=fL Dl 1000 (MG [] (Hw s)) (λx _=>tB x);unfold CN;rw [aq];unfold Hw at h2 |-
 refine⟨by omega,xJ h2 xE⟩
theorem io (s:Sd) (h:s.signers.length<=16):yq prog 35 [.st s.enc] (.nd (Dp (CN s)).1):=by
 have hz:=RU h;have cS:=Xa (CN s) xE xE;refine an func35 U ntmps35 U (λe=>?_);refine W ?_;refine Mm U U ?_;refine W ?_;refine Rn kN 4 33 U U ?_;refine Lp (γ:=Nat×List Int) (λg=>g.1<=s.signers.length/\g.2.length<=g.1/\MG [] (Hw s)=MG g.2 ((Hw s).drop g.1)) (λg=>s.signers.length+1-g.1)
  (λg=>[(2,.own 1 0),(3,.mp 2),(4,.row 3),(11,.d (.sl 7 Sg.enc s.signers)),(12,.d (.i s.signers.length)),(13,.d (.i (g.1:Int)))])
  (λg=>[(2,.set (g.2.map a2u)),(3,.row 33 (.AX (g.2.map Dl))),(1,.var 33 [.d (.i 0),.d (.i 0),.d (.b false),.d A1,.d A1])]) (0,[]) ⟨by simp,by simp,U⟩ y9 y9 ?_
 rintro⟨g,acc⟩ ⟨hg,ha,hd⟩;dsimp only at hg ha hd;have FH:(acc.map Dl).length<=40:=by rw [aq];omega
 refine W ?_;refine Ci U (λh1=>?_) (λh1=>?_)
 ·have yJ:g<s.signers.length:=by omega
  have U5:(Hw s).drop g=(s.signers.getD g default).hash::(Hw s).drop (g+1):=by
   rw [aL (by unfold Hw;rw [aq];exact yJ),aU yJ];unfold Hw;rw [Ba]
  rw [U5,lS] at hd;refine W ?_;refine aI (yi.a3P tk U U U U U U) ?_;refine W ?_;refine Ci U (λh2=>?_) (λh2=>?_)
  ·have h3:(acc.any λt=>decide (t=(s.signers.getD g default).hash))=false:=by simpa using h2
   rw [h3,xC yD] at hd;refine W ?_;refine MuK tk U U U U h3 U U ?_;refine W ?_;refine⟨(g+1,acc++[(s.signers.getD g default).hash]),by simp only;omega,⟨by simp only;omega,by simp only [aF,aw,ay];omega,hd⟩,y9,?_⟩;simp only [y8,yy,List.map_nil];exact y9
  ·have h3:(acc.any λt=>decide (t=(s.signers.getD g default).hash))=true:=by simpa using h2
   rw [xD h3] at hd;refine W ?_;refine MuP tk (a55 _) U U U U h3 U U ?_;refine W ?_;exact⟨(g+1,acc),by simp only;omega,⟨by simp only;omega,by simp only;omega,hd⟩,y9,y9⟩
 ·have CK:(Hw s).drop g=[]:=yw (by unfold Hw;rw [aq];omega);rw [CK,S4] at hd;have hL:CN s=acc.map Dl:=by unfold CN;rw [hd]
  rw [hL] at cS |-
  exact m10
instance:Cn prog 35 (type_of% @io):=⟨@io⟩
def Ch (t:Int) (l:LN):LN:=if l=[] then [] else [.mk 2 t true [] l]
def F8 (s:Sd):LN:=if s.has=true then [Ay s.type,.mk 2 0 true [] [.mk 0 4 false s.content []]] else [Ay s.type]
noncomputable def Ow (s:Sd):LN:=[.mk 0 2 false (B2 (Ih s)) [],(Dp (CN s)).1,.mk 0 16 true [] (F8 s)]
noncomputable def Ht (s:Sd):LN:=Ow s++Ch 0 (s.yj.map Aj)
noncomputable def Ii (s:Sd):LN:=Ht s++Ch 1 (s.crls.map Dg)
noncomputable def KQ (s:Sd):Nd:=.mk 0 16 true [] (Ii s++[.mk 0 17 true [] (s.signers.map BW)])
noncomputable def DS (s:Sd):Nd:=if FG s=true then .mk 0 16 true [] [Ay Ad,.mk 2 0 true [] [KQ s]] else DU
variable{P:Program}
theorem Jn  [Tb P] {F:Fd}{n:y_}{x x':Nat->y_}{a:LO}{o:LQ}{c d:Code}(aa:LO) (oo:LQ) (k1:JD P F d n x' aa oo->JD P F c (JD P F d n x') x a o) (k2:JD P F d n x' aa oo):JD P F c (JD P F d n x') x a o:=k1 k2
theorem JD.bk  [Tb P] {F:Fd}{n:y_}{x:Nat->y_}{a a':LO}{o o':LQ}{c:Code}(K:JD P F c n x a' o') (hA:Jq a' a) (hO:I7 o' o):JD P F c n x a o:=JD.wd hA hO K
theorem gT {s:Sd}(h:FG s=true):Ov s:=by
 unfold FG at h;simp only [xB] at h;exact xV h.1.1.1.1
theorem sn:∀ l r:LN,Nd.yP (l++r)=Nd.yP l+Nd.yP r
 |[],r=>by simp [Nd.yP]
 |x::l,r=>by simp only [xX,Nd.yP,sn l r];omega
theorem lD (t:Int) (l:LN):(Ch t l).length<=1:=by unfold Ch;split<;>simp
theorem oP (t:Int) (l:LN):Nd.yP (Ch t l)<=1+Nd.yP l:=by
 unfold Ch;exact m94
theorem jW {s:Sd}(h:FG s=true):(∀ c∈s.yj,Bc c=0)/\(∀ c∈s.crls,Gh c=0)/\∀ c∈s.signers,z_ c=true:=by
 unfold FG at h;simp only [xB,xH,beq_iff_eq] at h;exact⟨h.1.1.1.2,h.1.1.2,h.1.2⟩
theorem a2L {s:Sd}(h:Vl s):Nd.yP (F8 s)<=12100000:=by
 have h1:=dD s.type;have h2:=h.ty;have h3:=h.ct;unfold F8;exact m94
theorem sv {s:Sd}(h:s.signers.length<=16):(Dp (CN s)).1.sz<=16001:=by
 have hz:=RU h;have:=(qn (CN s)).sz;omega
theorem sdz {s:Sd}(h:Vl s) (hr':FG s=true):Nd.yP (Ow s)<=12200000/\Nd.yP (s.yj.map Aj)<=32000000/\Nd.yP (s.crls.map Dg)<=32000000/\Nd.yP (s.signers.map BW)<=32000000:=by
 obtain⟨r1,r2,r3,r4,r5⟩:=gT hr';obtain⟨k1,k2,k3⟩:=jW hr';have e1:=a2L h;have e2:=sv r5;have e3:(B2 (Ih s)).length<=8:=by
  have i3:(B2 3).length<=8:=(cK 3 yD yD).2.2.1;have i1:(B2 1).length<=8:=(cK 1 yD yD).2.2.1;unfold Ih;split<;>assumption
 refine⟨by simp only [Ow,Nd.yP,Nd.sz,ay];omega,?_,?_,?_⟩
 ·exact xJ (fL Aj 1000000 s.yj λc hc=>((h.csB c hc).z (k1 c hc)).2) xE
 ·exact xJ (fL Dg 2000000 s.crls λc hc=>(h.lsB c hc).z (k2 c hc)) xE
 ·exact xJ (fL BW 1000000 s.signers λc hc=>(h.sgB c hc).z) xE
theorem oi (s:Sd) (h:Vl s):yq prog 48 [.st s.enc] (.zZ [.nd (DS s),.i (if FG s=true then 0 else 60)]):=by
 have hR:=iE s h;have hV:=il s h;refine an func48 U ntmps48 U (λe=>?_);refine W ?_;refine Ci U (λh1=>?_) (λh1=>?_)
 ·have h2:¬ FG s=true:=by simpa using h1
  unfold DS;rw [xC h2,xC h2];exact m10
 have h2:FG s=true:=by simpa using h1
 have Rk:=gT h2;obtain⟨z1,z2,z3,z4⟩:=sdz h h2;obtain⟨r1,r2,r3,r4,r5⟩:=Rk;obtain⟨b1,b2,b3,b4,b5,b6,b7,b8⟩:=h;have hD:=io s r5;have c0:=rJ s.type xE;have z0:=dD s.type;have zo:(Ay Ad).sz<=1000:=xJ (dD _) yD;have q1:=oP 0 (s.yj.map Aj);have q2:=oP 1 (s.crls.map Dg);have hN:DS s=.mk 0 16 true [] [Ay Ad,.mk 2 0 true [] [KQ s]]:=xD h2;rw [hN,xD h2];refine W ?_;refine Co U U (vS [Ay s.type] (by simp only [Nd.yP];omega)) U ?_;refine W ?_;refine Jn [(1,.own 0 0),(2,.own 1 0),(4,.own 2 0),(8,.own 5 0)] [(5,.var 33 [.d (.i 0),.d (.i 16),.d (.v (.bool true)),.d A1,.row 4]),(4,.row 33 (.AX (F8 s))),(2,.B1 33 (.nd (Ay Ad))),(1,.var 33 [.d (.i 0),.d (.i 0),.d (.b false),.d A1,.d A1]),(0,.B1 28 (.st s.enc))] (λK=>?_) ?_
 ·refine Ci U (λh3=>?_) (λh3=>?_)
  ·have e1:F8 s=[Ay s.type]++[.mk 2 0 true [] [.mk 0 4 false s.content []]]:=xD h3;rw [e1] at K;refine W ?_;refine Kz kN U U U U U U U (by simp) U U U ?_;refine HA U U ?_;refine bI U ?_;refine Kj 4 U U U U U ?_;exact K.bk ⟨⟨_,U,az⟩,⟨_,U,az⟩,⟨_,U,az⟩,⟨_,U,az⟩,trivial⟩ y9
  ·have e1:F8 s=[Ay s.type]:=xC (by rw [h3];decide);rw [e1] at K;refine JD.skip ?_;exact K.bk ⟨⟨_,U,az⟩,⟨_,U,az⟩,⟨_,U,az⟩,⟨_,U,az⟩,trivial⟩ y9
 refine Pb 4 U ?_;refine W ?_;refine Xco (K:=kN) U U (vS (Ow s) xE) U ?_;refine HA U U ?_;refine bI U ?_;refine W ?_;refine Rn kN 10 33 U U ?_;refine Lp (γ:=Nat) (λg=>g<=s.yj.length) (λg=>s.yj.length+1-g) (λg=>[(1,.own 0 0),(2,.own 1 0),(4,.own 2 0),(9,.own 7 0),(10,.row 8),(11,.d A1),(12,.d A1),(63,.d (.sl 11 BU.enc s.yj)),(64,.d (.i (s.yj.length:Int))),(65,.d (.i (g:Int)))])
  (λg=>[(8,.row 33 (.AX ((s.yj.take g).map Aj))),(7,.var 33 [.d (.i 0),.d (.i 16),.d (.v (.bool true)),.d A1,.row 6]),(6,.row 33 (.AX (Ow s))),(2,.B1 33 (.nd (Ay Ad))),(1,.var 33 [.d (.i 0),.d (.i 0),.d (.b false),.d A1,.d A1]),(0,.B1 28 (.st s.enc))]) 0 (yQ _) y9 y9 ?_
 intro g hg;have FH:((s.yj.take g).map Aj).length<=100:=by rw [aq];have:=xY g s.yj;omega
 refine W ?_;refine Ci U (λh3=>?_) (λh3=>?_)
 ·have yJ:g<s.yj.length:=by omega
  have yL:s.yj.getD g default=s.yj[g]:=aU yJ;have hm:s.yj.getD g default∈s.yj:=by rw [yL];exact ax _
  have c3:=kV (s.yj.getD g default) (b4 _ hm);have EW:(s.yj.take (g+1)).map Aj=(s.yj.take g).map Aj++[Aj (s.yj.getD g default)]:=by rw [ai yJ,y8,yL];rfl
  refine W ?_;refine⟨g+1,by omega,by omega,y9,?_⟩;rw [EW];exact y9
 have CK:g=s.yj.length:=by omega
 subst CK;rw [xK];clear h3 hg FH;refine W ?_;refine Rn kN 11 33 U U ?_;refine Lp (γ:=Nat) (λg=>g<=s.crls.length) (λg=>s.crls.length+1-g) (λg=>[(1,.own 0 0),(2,.own 1 0),(4,.own 2 0),(9,.own 7 0),(10,.row 8),(11,.row 9),(12,.d A1),(80,.d (.sl 6 Cl.enc s.crls)),(81,.d (.i (s.crls.length:Int))),(82,.d (.i (g:Int)))])
  (λg=>[(9,.row 33 (.AX ((s.crls.take g).map Dg))),(8,.row 33 (.AX (s.yj.map Aj))),(7,.var 33 [.d (.i 0),.d (.i 16),.d (.v (.bool true)),.d A1,.row 6]),(6,.row 33 (.AX (Ow s))),(2,.B1 33 (.nd (Ay Ad))),(1,.var 33 [.d (.i 0),.d (.i 0),.d (.b false),.d A1,.d A1]),(0,.B1 28 (.st s.enc))]) 0 (yQ _) y9 y9 ?_
 intro g hg;have FH:((s.crls.take g).map Dg).length<=100:=by rw [aq];have:=xY g s.crls;omega
 refine W ?_;refine Ci U (λh3=>?_) (λh3=>?_)
 ·have yJ:g<s.crls.length:=by omega
  have yL:s.crls.getD g default=s.crls[g]:=aU yJ;have hm:s.crls.getD g default∈s.crls:=by rw [yL];exact ax _
  have c3:=kj (s.crls.getD g default) (b6 _ hm);have EW:(s.crls.take (g+1)).map Dg=(s.crls.take g).map Dg++[Dg (s.crls.getD g default)]:=by rw [ai yJ,y8,yL];rfl
  refine W ?_;refine⟨g+1,by omega,by omega,y9,?_⟩;rw [EW];exact y9
 have CK:g=s.crls.length:=by omega
 subst CK;rw [xK];clear h3 hg FH;refine W ?_;refine Rn kN 12 33 U U ?_;refine Lp (γ:=Nat) (λg=>g<=s.signers.length) (λg=>s.signers.length+1-g) (λg=>[(1,.own 0 0),(2,.own 1 0),(4,.own 2 0),(9,.own 7 0),(10,.row 8),(11,.row 9),(12,.row 10),(97,.d (.sl 7 Sg.enc s.signers)),(98,.d (.i (s.signers.length:Int))),(99,.d (.i (g:Int)))])
  (λg=>[(10,.row 33 (.AX ((s.signers.take g).map BW))),(8,.row 33 (.AX (s.yj.map Aj))),(9,.row 33 (.AX (s.crls.map Dg))),(7,.var 33 [.d (.i 0),.d (.i 16),.d (.v (.bool true)),.d A1,.row 6]),(6,.row 33 (.AX (Ow s))),(2,.B1 33 (.nd (Ay Ad))),(1,.var 33 [.d (.i 0),.d (.i 0),.d (.b false),.d A1,.d A1]),(0,.B1 28 (.st s.enc))]) 0 (yQ _) y9 y9 ?_
 intro g hg;have FH:((s.signers.take g).map BW).length<=100:=by rw [aq];have:=xY g s.signers;omega
 refine W ?_;refine Ci U (λh3=>?_) (λh3=>?_)
 ·have yJ:g<s.signers.length:=by omega
  have yL:s.signers.getD g default=s.signers[g]:=aU yJ;have hm:s.signers.getD g default∈s.signers:=by rw [yL];exact ax _
  have c3:=f9 (s.signers.getD g default) (b8 _ hm).w;have EW:(s.signers.take (g+1)).map BW=(s.signers.take g).map BW++[BW (s.signers.getD g default)]:=by rw [ai yJ,y8,yL];rfl
  refine W ?_;refine⟨g+1,by omega,by omega,y9,?_⟩;rw [EW];exact y9
 have CK:g=s.signers.length:=by omega
 subst CK;rw [xK];clear h3 hg FH;refine W ?_;have y0:(Ow s).length=3:=rfl;have y1:(Ht s).length<=4:=by have:=lD 0 (s.yj.map Aj);unfold Ht;rw [aF];omega
 have y2:(Ii s).length<=5:=by have:=lD 1 (s.crls.map Dg);unfold Ii;rw [aF];omega
 have b2g:=@jG 0 17 (s.signers.map BW) xE;have z5:(KQ s).sz<=120000000:=by
  simp only [KQ,Ii,Ht,Nd.sz,Nd.yP,sn,ay];omega
 refine Pb 8 U ?_;refine Pb 9 U ?_;refine Pb 10 U ?_;have Dk:=@jG 2 0 (s.yj.map Aj) xE;refine Jn [(1,.own 0 0),(2,.own 1 0),(4,.own 2 0),(9,.own 7 0),(11,.d (.AX (s.crls.map Dg))),(12,.d (.AX (s.signers.map BW)))] [(7,.var 33 [.d (.i 0),.d (.i 16),.d (.v (.bool true)),.d A1,.row 6]),(6,.row 33 (.AX (Ht s))),(2,.B1 33 (.nd (Ay Ad))),(1,.var 33 [.d (.i 0),.d (.i 0),.d (.b false),.d A1,.d A1]),(0,.B1 28 (.st s.enc))] (λK=>?_) ?_
 ·refine Ci U (λh3=>?_) (λh3=>?_)
  ·have e1:Ht s=Ow s++[.mk 2 0 true [] (s.yj.map Aj)]:=by
    have e0:s.yj.map Aj≠[]:=λe=>by rw [e] at h3;simp at h3
    unfold Ht Ch;rw [xC e0]
   rw [e1] at K;refine W ?_;refine Kz kN U U U U U U U JA U U U ?_;refine HA U U ?_;refine bI U ?_;refine Kj 6 U U U U U ?_;exact K.bk ⟨⟨_,U,az⟩,⟨_,U,az⟩,⟨_,U,az⟩,⟨_,U,az⟩,⟨_,U,az⟩,⟨_,U,az⟩,trivial⟩ y9
  ·have e1:Ht s=Ow s:=by
    have e0:s.yj.map Aj=[]:=xI xE;unfold Ht Ch;rw [xD e0,Ak]
   rw [e1] at K;refine JD.skip ?_;exact K.bk ⟨⟨_,U,az⟩,⟨_,U,az⟩,⟨_,U,az⟩,⟨_,U,az⟩,⟨_,U,az⟩,⟨_,U,az⟩,trivial⟩ y9
 clear Dk;refine W ?_;have Dk:=@jG 2 1 (s.crls.map Dg) xE;refine Jn [(1,.own 0 0),(2,.own 1 0),(4,.own 2 0),(9,.own 7 0),(12,.d (.AX (s.signers.map BW)))] [(7,.var 33 [.d (.i 0),.d (.i 16),.d (.v (.bool true)),.d A1,.row 6]),(6,.row 33 (.AX (Ii s))),(2,.B1 33 (.nd (Ay Ad))),(1,.var 33 [.d (.i 0),.d (.i 0),.d (.b false),.d A1,.d A1]),(0,.B1 28 (.st s.enc))] (λK=>?_) ?_
 ·refine Ci U (λh3=>?_) (λh3=>?_)
  ·have e1:Ii s=Ht s++[.mk 2 1 true [] (s.crls.map Dg)]:=by
    have e0:s.crls.map Dg≠[]:=λe=>by rw [e] at h3;simp at h3
    unfold Ii Ch;rw [xC e0]
   rw [e1] at K;refine W ?_;refine Kz kN U U U U U U U JA U U U ?_;refine HA U U ?_;refine bI U ?_;refine Kj 6 U U U U U ?_;exact K.bk ⟨⟨_,U,az⟩,⟨_,U,az⟩,⟨_,U,az⟩,⟨_,U,az⟩,⟨_,U,az⟩,trivial⟩ y9
  ·have e1:Ii s=Ht s:=by
    have e0:s.crls.map Dg=[]:=xI xE;unfold Ii Ch;rw [xD e0,Ak]
   rw [e1] at K;refine JD.skip ?_;exact K.bk ⟨⟨_,U,az⟩,⟨_,U,az⟩,⟨_,U,az⟩,⟨_,U,az⟩,⟨_,U,az⟩,trivial⟩ y9
 clear Dk;refine W ?_;refine Kz kN U U U U U U U JA U U U ?_;refine HA U U ?_;refine bI U ?_;refine Kj 6 U U U U U ?_;refine Pb 6 U ?_;have b2f:=@jG 2 0 [KQ s] (by simp only [Nd.yP];omega);have hsq:=vT [Ay Ad,.mk 2 0 true [] [KQ s]] (by simp only [Nd.yP,Nd.sz,ay];omega);exact m10
instance:Cn prog 48 (type_of% @oi):=⟨@oi⟩
theorem Wv {s:Sd}(h:Vl s):(DS s).sz<=120000000:=by
 unfold DS;split
 ·rename_i h2;have Rk:=gT h2;obtain⟨z1,z2,z3,z4⟩:=sdz h h2;have zo:(Ay Ad).sz<=1000:=xJ (dD _) yD;have q1:=oP 0 (s.yj.map Aj);have q2:=oP 1 (s.crls.map Dg);simp only [KQ,Ii,Ht,Nd.sz,Nd.yP,sn,ay];omega
 ·simp [DU,Nd.sz,Nd.yP]
noncomputable def sdB (s:Sd):yG:=if FG s=true then(DS s).wr.1 else []
noncomputable def sdE (s:Sd):Int:=if FG s=true then(DS s).wr.2 else 60
theorem gU (s:Sd) (h:Vl s):yq prog 15 [.st s.enc] (.zZ [.bs (sdB s),.i (sdE s)]):=by
 have hz:=Wv h;have hn:=oi s h;unfold sdB sdE;refine an func15 U ntmps15 U (λe=>?_);cases hr:FG s
 ·rw [hr] at hn;rw [xC yD,xC yD];rw [xC yD] at hn;exact m10
 ·rw [hr] at hn;rw [xD U,xD rfl];rw [xD rfl] at hn;exact m10
instance:Cn prog 15 (type_of% @gU):=⟨@gU⟩
abbrev AE (n:Nd):Nd:=kd (kd n 1) 0
def CI (n:Nd):Bool:=decide (((kd (AE n) 2).kids.length:Int)=2)
def CD (n:Nd):LN:=(AE n).kids.drop 3
def E9 (l:LN):Bool:=zd (lk l 0) 0 true&&decide (0<((lk l 0).kids.length:Int))
def E8 (l:LN):Bool:=decide (0<(l.length:Int))&&zd (lk l 0) 1 true&&decide (0<((lk l 0).kids.length:Int))
def Ah (n:Nd):LN:=if E9 (CD n) then(CD n).drop 1 else CD n
def BD (n:Nd):LN:=if E8 (Ah n) then(Ah n).drop 1 else Ah n
def BL (n:Nd):Sd:=⟨(Bm (kd (kd (AE n) 2) 0)).1,CI n,if CI n then(kd (kd (kd (AE n) 2) 1) 0).bytes else [],
 if E9 (CD n) then(lk (CD n) 0).kids.map (λk=>(Bb k).1) else [],if E8 (Ah n) then(lk (Ah n) 0).kids.map (λk=>(Eb k).1) else [],(lk (BD n) 0).kids.map λk=>(C5 k).1⟩
def J4 (n:Nd):Bool:=xR (kd (AE n) 2) 1 2&&(!CI n||(zd (kd (kd (AE n) 2) 1) 0 true&&decide (((kd (kd (AE n) 2) 1).kids.length:Int)=1)&&decide ((kd (kd (kd (AE n) 2) 1) 0).cls=0)&&decide ((kd (kd (kd (AE n) 2) 1) 0).tag=4)))
 && (Bm (kd (kd (AE n) 2) 0)).2&&(!E9 (CD n)||(lk (CD n) 0).kids.all λk=>(Bb k).2 == 0)&&(!E8 (Ah n)||(lk (Ah n) 0).kids.all λk=>(Eb k).2 == 0)
 && (decide (((BD n).length:Int)=1)&&decide ((lk (BD n) 0).cls=0))&&decide ((lk (BD n) 0).tag=17)&&(lk (BD n) 0).kids.all λk=>(C5 k).2
noncomputable def Fm (n:Nd):Bool:=n.put.isSome&&xR n 2 2&&(zd (kd n 1) 0 true&&decide (((kd n 1).kids.length:Int)=1))&&((Bm (kd n 0)).2&&decide ((Bm (kd n 0)).1=Ad))&&xR (AE n) 4 6&&J4 n&&FG (BL n)
 && ((kd (AE n) 0).AA&&decide ((kd (AE n) 0).tag=2)&&decide ((kd (AE n) 0).D7=Ih (BL n))&&decide ((kd (AE n) 1).wr.1=(Dp (CN (BL n))).1.wr.1))
def sd0:Sd:=⟨[],false,[],[],[],[]⟩
noncomputable def sdO (n:Nd):Sd×Bool:=if Fm n then(BL n,true) else(sd0,false)
theorem qM (n:Nd) (l m:Int):yq prog 181 [.nd n,.i l,.i m] (.b (xR n l m)):=by
 unfold xR;exact an func181 U ntmps181 U (λe=>Z)
instance:Cn prog 181 (type_of% @qM):=⟨@qM⟩
theorem vw (n:Nd) (hz:n.sz<=1073741824):yq prog 182 [.nd n] (.zZ [.sl 2 Gn.enc (EF n).1,.b (EF n).2]):=by
 have bad:FV n=false->yR [.sl 2 Gn.enc ([]:List Gn),.b false]=.zZ [.sl 2 Gn.enc (EF n).1,.b (EF n).2]:=λhb=>by unfold EF;rw [hb];rfl
 have kl:=dQ n;refine an func182 U ntmps182 U (λe=>?_);refine W ?_;refine Ci U (λh1=>?_) (λh1=>?_)
 ·have E_:xR n 1 1000=false:=by simpa using h1
  refine W ?_;exact Rt U U (bad (by unfold FV;rw [E_];rfl))
 have E_:xR n 1 1000=true:=by simp_all
 refine W ?_;refine Rn (kS 2 Gn.enc) 4 156 U U ?_;refine Lp (γ:=Nat) (λg=>g<=n.kids.length/\(n.kids.take g).all HY=true) (λg=>n.kids.length+1-g)
  (λg=>[(1,.own 0 0),(4,.row 1),(15,.d (.AX n.kids)),(16,.d (.i (n.kids.length:Int))),(17,.d (.i (g:Int)))])
  (λg=>[(0,.B1 33 (.nd n)),(1,.row 156 (.sl 2 Gn.enc ((n.kids.take g).map Pj)))]) 0 ⟨by omega,U⟩ y9 y9 ?_
 rintro g ⟨hg,zX⟩;have k0:=b_ n g;have k1:=b_ (n.kids.getD g (.mk 0 0 false [] [])) 0;have k2:=b_ (n.kids.getD g (.mk 0 0 false [] [])) 1;have FH:((n.kids.take g).map Pj).length<=1073741824:=by rw [aq];have:=xY g n.kids;omega
 have nok:g<n.kids.length->HY (n.kids.getD g (.mk 0 0 false [] []))=false->yR [.sl 2 Gn.enc ([]:List Gn),.b false]=.zZ [.sl 2 Gn.enc (EF n).1,.b (EF n).2]:=λhl hb=>bad (by
  have:n.kids.all HY=false:=by
   rw [yM];exact⟨n.kids[g],ax hl,by rw [<- aU (z:=.mk 0 0 false [] []) hl,hb];decide⟩
  unfold FV;rw [this,yA])
 refine W ?_;refine Ci U (λh3=>?_) (λh3=>?_)
 ·have hl:g<n.kids.length:=by omega
  have yL:n.kids.getD g (.mk 0 0 false [] [])=n.kids[g]:=aU hl;refine W ?_;refine Ci U (λh4=>?_) (λh4=>?_)
  ·have Is:xR (n.kids.getD g (.mk 0 0 false [] [])) 2 2=false:=by simpa using h4
   refine W ?_;exact Rt U U (nok hl (by unfold HY;rw [Is];rfl))
  have Is:xR (n.kids.getD g (.mk 0 0 false [] [])) 2 2=true:=by simp_all
  refine W ?_;refine Bg U U (λh5=>?_) (λh5=>?_)
  ·have MD:(kd (n.kids.getD g (.mk 0 0 false [] [])) 0).Cu=false:=by unfold kd;simpa using h5
   refine W ?_;exact Rt U U (nok hl (by unfold HY;rw [MD];simp))
  have MD:(kd (n.kids.getD g (.mk 0 0 false [] [])) 0).Cu=true:=by unfold kd;simpa using h5
  refine W ?_;refine Bg U U (λh6=>?_) (λh6=>?_)
  ·have h6':(zC (kd (n.kids.getD g (.mk 0 0 false [] [])) 1)).2=false:=by unfold kd;simpa using h6
   refine W ?_;exact Rt U U (nok hl (by unfold HY;rw [h6'];simp))
  have h6':(zC (kd (n.kids.getD g (.mk 0 0 false [] [])) 1)).2=true:=by unfold kd;simpa using h6
  refine W ?_;refine Ci U (λh7=>?_) (λh7=>?_)
  ·have U_:decide ((kd (n.kids.getD g (.mk 0 0 false [] [])) 0).tag=2)=false:=ah h7;refine W ?_;exact Rt U U (nok hl (by unfold HY;rw [U_];simp))
  have U_:decide ((kd (n.kids.getD g (.mk 0 0 false [] [])) 0).tag=2)=true:=ae (by unfold kd;simpa using h7);have e1:(n.kids.take (g+1)).map Pj=(n.kids.take g).map Pj++[Pj (n.kids.getD g (.mk 0 0 false [] []))]:=by
   exact m141
  have e2:(n.kids.take (g+1)).all HY=true:=by
   rw [ai hl,yr,zX,<- yL];simp only [ya,zf,HY,Is,MD,h6',U_];rfl
  refine W ?_;refine aI (yi.OX (enc:=Gn.enc) [Pj (n.kids.getD g (.mk 0 0 false [] []))] U U U U (λ_ _=>rfl) U U U U U) ?_;refine W ?_;exact m43
 ·have CK:g=n.kids.length:=by omega
  subst CK;rw [xK] at zX;rw [xK];have zt:FV n=true:=by unfold FV;rw [E_,zX];rfl
  refine Pb 1 U ?_;refine W ?_;refine Rt U U ?_;unfold EF;rw [xD zt];rfl
instance:Cn prog 182 (type_of% @vw):=⟨@vw⟩
theorem Xk:yq prog 180 [] (.zZ [.st cl0.enc,.i 60]):=by
 exact an func180 U ntmps180 U (λe=>Z)
instance:Cn prog 180 (type_of% @Xk):=⟨@Xk⟩
theorem vg (x:Nd):x.BE.length<=x.bytes.length / 4+1:=by
 unfold Nd.BE;split
 ·rw [jQ];have h:=iO x.bytes;have e:(256:Nat) ^ x.bytes.length=2 ^ (8*x.bytes.length):=by rw [CB]
  rw [e] at h;have:=n9 _ _ h;unfold nd;omega
 ·simp
theorem d9 (n:Nd):Nd.yP n.kids+1<=n.sz:=by cases n;simp only [Nd.kids,Nd.sz];omega
theorem dV:∀ (l:LN) (k:Nat),Nd.yP (l.drop k)<=Nd.yP l
 |_,0=>aB _
 |[],_+1=>aB _
 |x::r,k+1=>by
  have:=dV r k;simp only [AZ,Nd.yP];omega
theorem jt (l:LN) (i:Nat):(lk l i).sz<=Nd.yP l+1:=by
 unfold lk;by_cases h:i<l.length
 ·rw [aU h];have:=bX (ax h);omega
 ·rw [aJ,bu xE];simp [Nd.sz,Nd.yP]
theorem um (n:Nd):Nd.yP (Fk n)+1<=n.sz:=by
 have h1:=dV n.kids 3;have h2:=d9 n;unfold Fk;omega
theorem Ol (n:Nd):Nd.yP (B4 n)+1<=n.sz:=by
 have h1:=um n;unfold B4;split
 ·have:=dV (Fk n) 1;omega
 ·omega
theorem rl {ks:LN}(hz:Nd.yP ks<=8000):(za ks).1.length<=8000/\∀ f∈(za ks).1,IP f:=by
 have hlz:=bD ks;unfold za;split
 ·rename_i h;refine⟨by rw [aq];omega,λf hf=>?_⟩;obtain⟨k,hk,rfl⟩:=y'.1 hf;exact RP (by have:=bX hk;omega) (xH.1 h k hk)
 ·exact⟨yQ _,λf hf=>by cases hf⟩
theorem jo {n:Nd}(hz:n.sz<=8000):(nameOf n).1.length<=1000000/\∀ a∈(nameOf n).1,a.zJ.length<=1000000/\a.text.length<=1000000:=by
 have hk:=dQ n;have hl:=XR n;unfold nameOf;split
 ·refine⟨by rw [aq];omega,λa ha=>?_⟩;obtain⟨k,hk,rfl⟩:=y'.1 ha;have h1:=bX hk;have q0:(kd k 0).sz<=k.sz:=b_ k 0;have q1:(kd (kd k 0) 0).sz<=(kd k 0).sz:=b_ _ 0;have q2:(kd (kd k 0) 1).sz<=(kd k 0).sz:=b_ _ 1;have ol:=my (kd (kd k 0) 0);have kb:=bc (kd (kd k 0) 0);have kb2:=bc (kd (kd k 0) 1);unfold Kw;simp only;omega
 ·exact⟨yQ _,λf hf=>by cases hf⟩
theorem eB (n:Nd) (i:Nat):(kd n i).sz<=n.sz:=b_ n i
theorem a3w {n:Nd}(hz:n.sz<=8000):SgW (BV n):=by
 have k1:=eB n 1;have k10:=eB (kd n 1) 0;have k11:=eB (kd n 1) 1;have hb:=bc (kd (kd n 1) 1);have hn:=vg (kd (kd n 1) 1);have hT:=um n;have hU:=Ol n;have l0:=jt (Fk n) 0;have l2:=jt (B4 n) 2;have z0:=d9 (lk (Fk n) 0);have z2:=d9 (lk (B4 n) 2);obtain⟨n1,n2⟩:=jo (n:=kd (kd n 1) 0) xE;obtain⟨f1,f2⟩:=rl (ks:=(lk (Fk n) 0).kids) xE;obtain⟨f3,f4⟩:=rl (ks:=(lk (B4 n) 2).kids) xE;unfold BV;refine⟨?_,?_,?_,?_,?_,?_,?_⟩
 ·simp only [DL];split
  ·simp
  ·exact n1
 ·simp only [DL];split
  ·intro a ha;cases ha
  ·exact n2
 ·simp only [E2];split
  ·simp
  ·omega
 ·simp only;split
  ·omega
  ·simp
 ·simp only;split
  ·exact f2
  ·intro f hf;cases hf
 ·simp only;split
  ·omega
  ·simp
 ·simp only;split
  ·exact f4
  ·intro f hf;cases hf
def VD (v w:Nd):List D:=if Ga v w then Sg.enc ⟨DL w,E2 w,El w,0,[],[],[]⟩ else Oe v w
theorem a7K (v w:Nd) (hv:v.sz<=1000000) (hw:w.sz<=1000000):Jx prog 183 62 [] (.st z7) [.nd v,.nd w] (λd d1=>d=.b (Ga v w)/\d1=.st (VD v w)):=by
 refine(a7L v w hv hw).imp λd d1 ⟨h1,h2⟩=>⟨_,⟨h1,U⟩,λh x k0=>?_⟩;subst h2;unfold VD;cases hB:Ga v w with
 |false=>rw [xC (by simp)];exact k0
 |true =>
  rw [xD rfl];have hB':=hB;simp only [Ga,xB,a_] at hB';obtain⟨⟨b1,b2⟩,b3⟩:=hB';unfold Oe at k0;unfold DL E2 El Sg.enc;rw [b1,ae b2] at k0;obtain⟨cs,rfl,k⟩:=cA.1 k0;clear k0;refine(cA (h:=h)).2 ⟨cs,U,?_⟩;cases hc:zd w 0 false with
  |true =>
   rw [hc,xD U,xD (show(true&&true)=true from rfl)] at k;rw [xD U,xD U,xD rfl];unfold yp at k;obtain⟨v1,t1,rfl,o1,d1,k⟩:=k;unfold yp at k;obtain⟨v2,t2,rfl,o2,d2,k⟩:=k;unfold yp at k;obtain⟨v3,t3,rfl,o3,d3,k⟩:=k;unfold yp at k;obtain⟨v4,t4,rfl,o4,d4,k⟩:=k;unfold yp at k;obtain⟨v5,t5,rfl,o5,d5,k⟩:=k;unfold yp at k;obtain⟨v6,t6,rfl,o6,d6,k⟩:=k;unfold yp at k;obtain⟨v7,t7,rfl,o7,d7,k⟩:=k;exact .c o1 (tC d1) (.c o2 (tC d2) (.c o3 d3 (.c o4 d4 (.c o5 (tC d5) (.c o6 (vK d6) (.c o7 (tC d7) k))))))
  |false =>
   rw [hc,xC (by simp)] at b3;simp only [xB,a_] at b3;rw [hc,xC (by simp),b3.1.1.1.1,ae b3.1.1.1.2,xD (show(true&&true&&(true&&true))=true from rfl)] at k;rw [xC (by simp),xC (by simp),xC (by simp)];unfold yp at k;obtain⟨v1,t1,rfl,o1,d1,k⟩:=k;unfold yp at k;obtain⟨v2,t2,rfl,o2,d2,k⟩:=k;unfold yp at k;obtain⟨v3,t3,rfl,o3,d3,k⟩:=k;unfold yp at k;obtain⟨v4,t4,rfl,o4,d4,k⟩:=k;unfold yp at k;obtain⟨v5,t5,rfl,o5,d5,k⟩:=k;unfold yp at k;obtain⟨v6,t6,rfl,o6,d6,k⟩:=k;unfold yp at k;obtain⟨v7,t7,rfl,o7,d7,k⟩:=k;exact .c o1 d1 (.c o2 d2 (.c o3 (vK d3) (.c o4 d4 (.c o5 (tC d5) (.c o6 (vK d6) (.c o7 (tC d7) k))))))
theorem a7w:AF prog 289=some (some 1):=by kernel_rfl
theorem a0i:AF prog 55=some (some 11):=by kernel_rfl
theorem a79:yH prog 168=true:=by kernel_rfl
theorem a8g:OO prog 55=some ([.slice none 0 0,.int .i64 0,.slice none 0 0,.slice none 0 0,.int .i64 0,.int .i64 0,.slice none 0 0,.slice none 0 0,.slice none 0 0,.slice none 0 0,.slice none 0 0],[(0,1),(1,1),(2,1),(3,1),(4,1),(5,1),(6,3),(9,1),(10,1)]):=by kernel_rfl
theorem a4j:CH prog 289=some [.int .i64 0]:=by kernel_rfl
theorem xp :Pure prog 168 [YQ] h (.int .i64 60):=by
 unfold YQ;refine Pure.ofV ?_;refine aQ func168 U ntmps168 U (λe he=>?_);refine ba [(0,_)] y9 ?_;refine Sr (Ru 1 U (aj (Sr (Ru 1 U (aA (xG.typeAssert XP U) U ?_)))));refine Ru 3 U (bp a4j U (λb1=>?_));refine aZ a7w U U zW eE (by first|rfl|assumption) eE ?_;refine Ru 1 U (Nk [4,3,2,0] U (aK (Sr (Ru 2 U (aj (Cs U (λBO=>?_) λBO=>?_))))))
 ·refine Rg (Ru 1 U (JL.panic U ?_));exact absurd BO yD
 refine aO (Kp [3,2] U (Sr (Ru 1 U (aA (aG lw U zV U) U ?_))));exact Ru 1 U (aj (J.Tp (aW U U) U))
def Ob:LV:=[.slice none 0 0,.int .i64 0,.slice none 0 0,.slice none 0 0,.int .i64 0,.int .i64 0,.slice none 0 0,.slice none 0 0,.slice none 0 0,.slice none 0 0,.slice none 0 0]
theorem XE {e:Env}{L:LE}{bC bE:Nat}:J ⟨prog,e,9,λ_ _ _=>False,λ_ _ _ _=>False⟩ (PW (Tryz.f167.body.getD .skip)) (λ_ h1 L1=>h1=h/\L1=L) Ei [(2,.nilIface),(0,.pointer (some ⟨bC,0,none⟩)),(1,.pointer (some ⟨bE,0,none⟩))] h L:=by
 skip
 exact m184
theorem XD {e:Env}{L:LE}{bC bE:Nat}{Sa csE:LV}(hC:Sa.length=11) (hE:csE.length=1):J ⟨prog,e,9,λ_ _ _=>False,λ_ _ _ _=>False⟩ (PW (Tryz.f167.body.getD .skip))
 (λ_ h1 L1=>h1=h/\L1=.yY bE 34 [.int .i64 60]::.yY bC 55 Ob::L) Ei [(2,YQ),(0,.pointer (some ⟨bC,0,none⟩)),(1,.pointer (some ⟨bE,0,none⟩))] h (.yY bE 34 csE::.yY bC 55 Sa::L):=by
 obtain⟨w,rfl⟩:=List.length_eq_one_iff.1 hE;unfold YQ Ob
 skip
 refine Sr (Ru 1 U (aA (xG.Hc a2s U) U ?_));refine aj (bP U (Rg (aA (bi (cs:=[.slice none 0 0,.int .i64 0,.slice none 0 0,.slice none 0 0,.int .i64 0,.int .i64 0,.slice none 0 0,.slice none 0 0,.slice none 0 0,.slice none 0 0,.slice none 0 0]) a8g U U) U ?_)));refine Ru 1 U (cj a79 U (xp) U ?_);refine aZ a0i U U zW eE (by first|rfl|assumption) eE ?_;refine bj lw U U U zW iR ?_;exact aj (⟨U,U⟩)
theorem B7.ZN {e:Env}{m:Nat}{fn:Func}{S:AH}{L:LE}{t T b bt sz t' T' b' bt':Nat}{cs:LV}{v':Value}(hr:fn.results=#[.cell t T,.cell t' T']) (hv:look S t=some (.pointer (some ⟨b,0,none⟩))) (hT:AF P T=some (some sz)) (hm:Br.yY b bt cs∈L) (hl:cs.length=sz)
 (hv':look S t'=some (.pointer (some ⟨b',0,none⟩))) (Ll:AF P T'=some none) (hm':Br.yY b' bt' [v']∈L):B7 P e m fn S h L (.tuple #[.agg cs.toArray,v']):=λa w s=>by
 simp [results,hr,s.slot t _ hv,s.slot t' _ hv',asAddr,gB s.ok hT hm hl,pn s.ok Ll hm']
abbrev QM (bC bE:Nat):Deferred:=⟨.fn (.func 167) #[.pointer (some ⟨bC,0,none⟩),.pointer (some ⟨bE,0,none⟩)],#[]⟩
section
variable {w0:World}{h0 h:Part}{S:AH}{L L1 L2:LE}{bC bE:Nat}{Sa:LV}{vE:Value}{R:Ending->Part->LE->Prop}
theorem qS (w:World):(invoke (QM bC bE).target (QM bC bE).args).run prog w=.ok (.enter 167 #[.pointer (some ⟨bC,0,none⟩),.pointer (some ⟨bE,0,none⟩)]) w:=by
 have:=eF (P:=prog) (F:=167) cq #[.pointer (some ⟨bC,0,none⟩),.pointer (some ⟨bE,0,none⟩)] w;simp [invoke,QM,this]
theorem XC (h2:look S 2=some (.pointer (some ⟨bC,0,none⟩))) (h3:look S 3=some (.pointer (some ⟨bE,0,none⟩))) (uC:Dt (.yY bC 55 Sa) L L1) (uE:Dt (.yY bE 34 [vE]) L1 L2) (hC:Sa.length=11)
 (hR:R (.returned (.tuple #[.agg Sa.toArray,vE])) h []) :
 G2 prog ⟨w0,(·∈keys []),h0,[QM bC bE]⟩ 220 Tryz.f81 (GN w0 h0 [] R) (QM bC bE) .returning S h L:=λa w s=>by
 have Gm:=s.ok.perm (uC.perm.trans (uE.perm.cons _));refine leaves_cons (by simp) (qS w) ((iG (e:=⟨w0,(·∈keys []),h0,[]⟩) (vs:=[.pointer (some ⟨bC,0,none⟩),.pointer (some ⟨bE,0,none⟩)]) func167 U ntmps167 U U U U .none (Gm.ds []) U (ba [(2,_),(0,_),(1,_)] y9 XE)).mono ?_);rintro e u w' ⟨⟨v,rfl⟩,rfl,S',h1,L1,⟨rfl,rfl⟩,ok⟩;have s':Sat ⟨w0,(·∈keys []),h0,[QM bC bE]⟩ 220 S h1 _ a w':=s.with (ok.ds _);exact⟨_,B7.ZN U h2 a0i (aC ..) hC h3 lw (aE _ (aC ..)) a w' s',h1,[],hR,ok.drop (DZ _)⟩
theorem a5Q (h2:look S 2=some (.pointer (some ⟨bC,0,none⟩))) (h3:look S 3=some (.pointer (some ⟨bE,0,none⟩))) (uE:Dt (.yY bE 34 [vE]) L L1) (uC:Dt (.yY bC 55 Sa) L1 L2) (hC:Sa.length=11)
 (hR:R (.returned (.tuple #[.agg Ob.toArray,.int .i64 60])) h []) :
 G2 prog ⟨w0,(·∈keys []),h0,[QM bC bE]⟩ 220 Tryz.f81 (GN w0 h0 [] R) (QM bC bE) (.panicking (a1I YQ)) S h L:=λac w s=>by
 have Gm:=s.ok.perm (uE.perm.trans (uC.perm.cons _));refine leaves_cons (by simp) (qS w) ((iG (e:=⟨w0,(·∈keys []),h0,[]⟩) (vs:=[.pointer (some ⟨bC,0,none⟩),.pointer (some ⟨bE,0,none⟩)]) func167 U ntmps167 U U U U .some (Gm.ds []) U (ba [(2,_),(0,_),(1,_)] y9 (XD hC U))).mono ?_);rintro e u w' ⟨⟨v,rfl⟩,rfl,S',h1,L1,⟨rfl,rfl⟩,ok⟩;have s':Sat ⟨w0,(·∈keys []),h0,[QM bC bE]⟩ 220 S h1 _ ac w':=s.with (ok.ds _);exact⟨_,B7.ZN U h2 a0i (aE _ (aC ..)) U h3 lw (aC ..) ac w' s',h1,[],hR,ok.drop (DZ _)⟩
end
theorem a7E:CH prog 55=some [.slice none 0 0,.int .i64 0,.slice none 0 0,.slice none 0 0,.int .i64 0,.int .i64 0,.slice none 0 0,.slice none 0 0,.slice none 0 0,.slice none 0 0,.slice none 0 0]:=by kernel_rfl
abbrev a9O (R:D->Prop):Ending->Part->LE->Prop:=Cb λu h' Lo=>Lo=[]/\∃ d,R d/\Den d h' u
def OF (w0:World) (h0:Part) (bC bE:Nat) (R:D->Prop):Fd:=⟨⟨w0,(·∈keys []),h0,[QM bC bE]⟩,220,
 G2 prog ⟨w0,(·∈keys []),h0,[QM bC bE]⟩ 220 Tryz.f81 (GN w0 h0 [] (a9O R)) (QM bC bE) .returning,
 λc=>G2 prog ⟨w0,(·∈keys []),h0,[QM bC bE]⟩ 220 Tryz.f81 (GN w0 h0 [] (a9O R)) (QM bC bE) (.panicking c)⟩
section
variable {w0:World}{h0 h:Part}{bC bE kC kE:Nat}{R:D->Prop}{n:y_}{x:Nat->y_}{a a1:LO}{o o1:LQ}{e0 e1:OE}{dC:List D}{dE dN:D}{ρ:Ac}{S:AH}{L:LE}
theorem XB (cz:Cz prog ρ h a o S L) (h2:BF a 2=some (.own 0 0)) (h3:BF a 3=some (.own 1 0)) (k0:BH o 0=some e0) (w0:HG e0=some (55,.st dC)) (hl:Nat.beq dC.length 11=true) (k1:BH o 1=some e1) (w1:HG e1=some (34,.st [dE]))
 (q0:BH o kC=some (.Fo 0 bC)) (q1:BH o kE=some (.Fo 1 bE)):∃ Sa vE L1 L2,look S 2=some (.pointer (some ⟨bC,0,none⟩))/\look S 3=some (.pointer (some ⟨bE,0,none⟩))/\Dt (.yY bC 55 Sa) L L1/\Dt (.yY bE 34 [vE]) L1 L2/\Sa.length=11/\yp dC h Sa/\Den dE h vE:=by
 obtain⟨v2,g2,e2⟩:=cz.s _ _ h2;obtain⟨v3,g3,e3⟩:=cz.s _ _ h3;cases e2;cases e3;obtain⟨y0,L1,D0,E0,r0⟩:=cz.o.get k0;obtain⟨NW,rfl,d0⟩:=jP w0 E0;obtain⟨y1,L2,D1,E1,r1⟩:=r0.get ((pq (k:=0) (k':=1) yD).trans k1);obtain⟨L7,rfl,d1⟩:=jP w1 E1;obtain⟨_,_,_,⟨GF,_⟩,_⟩:=cz.o.get q0;obtain⟨_,_,_,⟨H3,_⟩,_⟩:=cz.o.get q1;rw [GF] at g2 D0;rw [H3] at g3 D1;obtain⟨cs0,e4,d4⟩:=cA.1 d0;obtain⟨cs1,e5,d5⟩:=cA.1 d1;have f0:NW=cs0:=by injection e4 with e4;simpa using congrArg Array.toList e4
 have f1:L7=cs1:=by injection e5 with e5;simpa using congrArg Array.toList e5
 subst f0 f1;unfold yp at d5;obtain⟨vE,t,rfl,_,d6,d7⟩:=d5;unfold yp at d7;subst d7;exact⟨NW,vE,L1,L2,g2,g3,D0,D1,by rw [d4.len];exact am hl,d4,d6⟩
theorem vM {d1 d2:D}{v1 v2:Value}(h1:Den d1 h v1) (h2:Den d2 h v2):Den (.zZ [d1,d2]) h (.tuple #[v1,v2]):=(kJ (h:=h)).2 ⟨[v1,v2],U,by
 unfold yT;refine⟨_,_,U,h1,?_⟩;unfold yT;refine⟨_,_,U,h2,?_⟩;unfold yT;rfl⟩
theorem Dt.swap {x y:Br}{L L1 L2:LE}(u:Dt x L L1) (v:Dt y L1 L2):∃ M,Dt y L M/\Dt x M L2:=by
 induction u generalizing L2 with
 |here=>exact⟨_,.there v,.here⟩
 |there u ih =>
  cases v with
  |here=>exact⟨_,.here,u⟩
  |there v=>obtain⟨M,p,q⟩:=ih v;exact⟨_,.there p,.there q⟩
theorem RtO (kC kE:Nat) (hp:E4 (Ye o) a o=some (a1,o1)) (h2:BF a1 2=some (.own 0 0)) (h3:BF a1 3=some (.own 1 0)) (k0:BH o1 0=some e0) (hw0:HG e0=some (55,.st dC)) (hl:Nat.beq dC.length 11=true) (k1:BH o1 1=some e1) (hw1:HG e1=some (34,.st [dE]))
 (q0:BH o1 kC=some (.Fo 0 bC)) (q1:BH o1 kE=some (.Fo 1 bE)) (hn:TM prog 55 (.st dC)=some dN) (hR:R (.zZ [dN,dE])):JD prog (OF w0 h0 bC bE R) .ret n x a o:=.mk λρ h S L cz ac w s=>by
 obtain⟨h',L',hle,zt,BG⟩:=dp hp cz s.ok;obtain⟨Sa,vE,L1,L2,g2,g3,D0,D1,hlen,d4,d6⟩:=XB BG h2 h3 k0 hw0 hl k1 hw1 q0 q1;exact dm (f:=(OF w0 h0 bC bE R).fr prog) (n:=up prog n) (x:=λi=>up prog (x i)) (XC g2 g3 D0 D1 hlen ⟨_,U,U,_,hR,vM (by rw [oY hn];exact gz h' _ ((cA (h:=h')).2 ⟨_,U,d4⟩)) d6⟩) ac w (s.with zt)
theorem Jr (kC kE:Nat) (h2:BF a 2=some (.own 0 0)) (h3:BF a 3=some (.own 1 0)) (k0:BH o 0=some e0) (hw0:HG e0=some (55,.st dC)) (hl:Nat.beq dC.length 11=true) (k1:BH o 1=some e1) (hw1:HG e1=some (34,.st [dE]))
 (q0:BH o kC=some (.Fo 0 bC)) (q1:BH o kE=some (.Fo 1 bE)) (hR:R (.zZ [.st Pv.enc,.i 60])):a0l prog (OF w0 h0 bC bE R) YQ a o:=λρ h S L cz=>by
 obtain⟨Sa,vE,L1,L2,g2,g3,D0,D1,hlen,d4,d6⟩:=XB cz h2 h3 k0 hw0 hl k1 hw1 q0 q1;obtain⟨L1',D2,D3⟩:=D0.swap D1;refine a5Q g2 g3 D2 D3 hlen ⟨_,U,U,_,hR,vM ((cA (h:=h)).2 ⟨_,U,?_⟩) (bh (h:=h))⟩;unfold Pv BU.enc Ob;exact .c U ig (.c U (bh (h:=h)) (.c U ig (.c U ig (.c U (bh (h:=h)) (.c U (bh (h:=h)) (.c U ig (.c U ig (.c U ig (.c U ig (.c U kK .n))))))))))
end
def a84:Code->Code
 |.seq _ (.seq _ c)=>c
 |c=>c
theorem OF.intro {n:Nd}{R:D->Prop}{r0 r1 rest:Code}(hb:Tryz.f81.body=some (.seq r0 (.seq r1 rest)))
 (k:∀ w0 h0 bC bE,JD prog (OF w0 h0 bC bE R) rest (λ_ _=>False) IM [(1,.own 2 0),(2,.own 0 0),(3,.own 1 0)]
  [(3,.Fo 0 bC),(4,.Fo 1 bE),(1,.var 34 [.d (.i 0)]),(0,.var 55 [.d (.v (.slice none 0 0)),.d (.i 0),.d (.v (.slice none 0 0)),.d (.v (.slice none 0 0)),.d (.i 0),.d (.i 0),.d (.v (.slice none 0 0)),.d (.v (.slice none 0 0)),.d (.v (.slice none 0 0)),.d (.v (.slice none 0 0)),.d (.v (.slice none 0 0))]),(2,.B1 33 (.nd n))]):Mt prog 81 [.nd n] R:=.mk λh vs hT hd=>by
 obtain⟨v,rfl,h1⟩:=ll hd;obtain⟨cs,rfl,h2⟩:=fw.1 h1;have hr:a84 (Tryz.f81.body.getD .skip)=rest:=by rw [hb];rfl
 subst hr;refine Fn.Yk func81 U ntmps81 U U (λw0=>?_);refine J.region ?_;refine JL.box U U U (λbN=>?_);refine bp a7E U (λbC=>?_);refine bp a3o U (λbE=>?_);refine aj ⟨_,U,?_⟩;refine J.own (L':=.row none 0 0 0 0 []::.row none 0 0 0 0 []::[.yY bE 34 [.int .i64 0],.yY bC 55 Ob,.yY bN 33 cs]) (λ_ hw=>(hw.CQ 0 0).CQ 0 0) ?_;refine J.cut ((k w0 h bC bE).k ⟨λk=>bif Nat.beq k 0 then bC else bif Nat.beq k 1 then bE else bN,λ_=>none,λ_=>0,λ_=>0⟩ h _ _ ?_) (λ_ _ _ ⟨_,_,_,_,hh⟩=>hh.elim) (λi _ _ _ ⟨_,_,_,_,hh⟩=>hh.elim);refine⟨hT,λt y hy=>?_,_,_,U,⟨U,U⟩,_,_,U,⟨U,U⟩,_,_,U,⟨_,U,_,_,U,U,bh (h:=h),U⟩,_,_,U,⟨Ob,U,?_⟩,_,_,U,⟨cs,U,h1⟩,U⟩
 ·simp only [BF] at hy;cases H3:Nat.beq 1 t with
  |true =>
   obtain rfl:=am H3;simp only [H3,cond_true,au] at hy;subst hy;exact⟨_,U,U⟩
  |false =>
   simp only [H3,cond_false] at hy;cases Ku:Nat.beq 2 t with
   |true =>
    obtain rfl:=am Ku;simp only [Ku,cond_true,au] at hy;subst hy;exact⟨_,U,U⟩
   |false =>
    simp only [Ku,cond_false] at hy;cases Pf:Nat.beq 3 t with
    |true =>
     obtain rfl:=am Pf;simp only [Pf,cond_true,au] at hy;subst hy;exact⟨_,U,U⟩
    |false=>simp only [Pf,cond_false] at hy;cases hy
 ·unfold Ob
  repeat (refine⟨_,_,U,U,bh (h:=h),?_⟩)
  rfl
def NJ:D:=.ptr [.zZ []]
theorem a2R {v:Value}(k:Den NJ h v):False:=by
 obtain⟨b,o,_,c,cs,_,_,k⟩:=(gE (h:=h)).1 k;unfold yp at k;obtain⟨w,t,_,h1,h2,_⟩:=k;obtain⟨Da,rfl,_⟩:=kJ.1 h2;exact absurd h1 Bool.false_ne_true
theorem JD.dead  [Tb P] {F:Fd}{n:y_}{x:Nat->y_}{a:LO}{o:LQ}{c:Code}(t:Nat) (h:BF a t=some (.d NJ)):JD P F c n x a o:=.mk λρ h' S L cz=>by
 obtain⟨v,_,h2⟩:=cz.s t _ h;exact(a2R h2).elim
section
variable {P:Program} [Tb P] {F:Fd}{n:y_}{x:Nat->y_}{a b Au:LO}{o ob:LQ}{ops:Array Oper}{rest:LR}{base:Nat}{es r:List Ef}
variable {d Fi:Nat}{ty:TypeId}{pos:String}{af:Array Edge}{os:Array Operand}{ts:Array TypeId}{ds:List D}{R:D->Prop}{u:Value}{q:Prop}{us ks:List Nat}
theorem G6.pan {k0:Nat}{ks:List Nat}(HX:Aa us (aR CT b r)=some Au) (ha:Be P Au os.toList ts.toList=some ds) (c:SS P Fi ds R u q) (hR:∀ d',¬ R d') (kp:∀ A' O',Ms Au A'->(∀ i,Eh (k0::ks) i=true->BH O' i=BH (oS ob r) i)->a0l P F u A' O') (hF:yH P Fi=true) (hd:Nat.blt d F.m=true) :
 G6 P F ops x b ob r (IX us (k0::ks) d (.d NJ)) ⟨some d,.call { callee:=.value (.func Fi),args:=os,argTypes:=ts },ty,pos,af,none⟩:=⟨Au,HX,λn A' O' hA hO hn=>.mk λρ h S L cz=>by
 have cu:=cz.wk hA;obtain⟨vs,h3,h4⟩:=cL cu ha;obtain⟨os⟩:=os;refine JL.Kf (f:=F.fr P) (Lr:=L) hF h3 (c.fn h vs cz.t h4) .nil hd ?_ ?_ ?_
 ·rintro _ _ ⟨_,⟨_,_,hh,_⟩|⟨_,hh⟩⟩<;>cases hh
 ·rintro ch h2 Lo zH ⟨rfl,⟨_,_,hh,_⟩|⟨hq,hh⟩⟩
  ·cases hh
  ·cases hh;exact kp A' O' hA hO ρ h2 S L (cz.mono zH)
 ·rintro v h2 Lo zH ⟨rfl,⟨_,d',hh,h7,h8⟩|⟨_,hh⟩⟩
  ·exact absurd h7 (hR d')
  ·cases hh⟩
theorem Xpn (k0:Nat) (ks:List Nat) (us:List Nat) (hk:Aa us a=some Au) (ha:Be P Au os.toList ts.toList=some ds) (c:SS P Fi ds R u q) (hR:∀ d',¬ R d') (kp:∀ A' O',Ms Au A'->(∀ i,Eh (k0::ks) i=true->BH O' i=BH o i)->a0l P F u A' O')
 (k:JX P F ops n x b ob base (IX us (k0::ks) d (.d NJ)::es) rest ((d,.d NJ)::a) o) (hF:yH P Fi=true:=by kernel_rfl) (hd:Nat.blt d F.m=true:=by rfl) :
 JX P F ops n x b ob base es (⟨some d,.call { callee:=.value (.func Fi),args:=os,argTypes:=ts },ty,pos,af,none⟩::rest) a o :=
 JX.put (λYM ho'=>⟨G6.pan (by rw [<- YM];exact hk) ha c hR (by rw [<- ho'];exact kp) hF hd,by subst YM;rfl,by subst ho';rfl⟩) k
end
def Za:Nat->Code->Code
 |0,c=>c
 |k+1,.seq _ c=>Za k c
 |_+1,c=>c
abbrev K4 (n:Nd) (i:Nat):Nd:=(n.kids.getD 0 (.mk 0 0 false [] [])).kids.getD i (.mk 0 0 false [] [])
theorem Vz {l:LN}(h:GZ l=true):(Ff l).length<=32:=by
 cases l with
 |nil=>exact yQ _
 |cons x r =>
  simp only [GZ,xR,xB,a_] at h;show((FF x).map λk=>(Bk k).1).length<=32;rw [aq];show(x.kids.getD 0 (.mk 0 0 false [] [])).kids.length<=32;omega
theorem ZM (n:Nd) (hz:n.sz<=1073741824) (hx:∀ x∈Ff (F9 n),XtS x) (hA:EH n=true) (P6:7<=(n.kids.getD 0 (.mk 0 0 false [] [])).kids.length/\(n.kids.getD 0 (.mk 0 0 false [] [])).kids.length<=8) (w0:World) (h0:Part) (bC bE:Nat) :
 JD prog (OF w0 h0 bC bE λd'=>d'=.zZ [.st (Bb n).1.enc,.i (Bb n).2]) (Za 9 (Tryz.f81.body.getD .skip)) (λ_ _=>False) IM [(1,.own 2 0),(2,.own 0 0),(3,.own 1 0),(4,.d (.AX (n.kids.getD 0 (.mk 0 0 false [] [])).kids))]
  [(0,.var 55 [.d (.ws (K4 n 1).BE),.d (.i (Ao (K4 n 2))),.d (.v (.slice none 0 0)),.d (.v (.slice none 0 0)),.d (.i 0),.d (.i 0),.d (.v (.slice none 0 0)),.d (.v (.slice none 0 0)),.d (.v (.slice none 0 0)),.d (.v (.slice none 0 0)),.d (.bs ((n.kids.getD 2 (.mk 0 0 false [] [])).bytes.drop 1))]),
   (3,.Fo 0 bC),(4,.Fo 1 bE),(1,.var 34 [.d (.i 0)]),(2,.B1 33 (.nd n))]:=by
 have bad:AV n=false->D.zZ [.st Pv.enc,.i 60]=.zZ [.st (Bb n).1.enc,.i (Bb n).2]:=λhb=>by unfold Bb;rw [hb];rfl
 have k0:=b_ n 0;have kz:=XR (n.kids.getD 0 (.mk 0 0 false [] []));have b3:=b_ (n.kids.getD 0 (.mk 0 0 false [] [])) 3;have b4:=b_ (n.kids.getD 0 (.mk 0 0 false [] [])) 4;have b5:=b_ (n.kids.getD 0 (.mk 0 0 false [] [])) 5;have b6:=b_ (n.kids.getD 0 (.mk 0 0 false [] [])) 6;have b40:=b_ ((n.kids.getD 0 (.mk 0 0 false [] [])).kids.getD 4 (.mk 0 0 false [] [])) 0;have b41:=b_ ((n.kids.getD 0 (.mk 0 0 false [] [])).kids.getD 4 (.mk 0 0 false [] [])) 1;refine W ?_;refine HB U U (cy _) (λhq=>Jr 3 4 U U U U U U U U U (bad (by unfold AV;rw [show(nameOf (bk n 3)).2=false from hq];simp))) (λd' hd=>?_);obtain⟨g1,rfl⟩:=hd;refine W ?_;refine Bg U U (λg2=>?_) (λg2=>?_)
 rotate_left
 ·have NG:(nameOf (bk n 5)).2=false:=by unfold bk kd;simpa using g2
  refine W ?_;refine HB U U (cy _) (λhq=>Jr 3 4 U U U U U U U U U (bad (by unfold AV;rw [NG];simp))) (λd' hd=>?_);cases hd.1
 have NG:(nameOf (bk n 5)).2=true:=by unfold bk kd;simpa using g2
 refine W ?_;refine HB U U (cy _) (λhq=>Jr 3 4 U U U U U U U U U (bad (by unfold AV;rw [show xR (bk n 4) 2 2=false from hq];simp))) (λd' hd=>?_);obtain⟨g3,rfl⟩:=hd
 replace g3:xR (K4 n 4) 2 2=true:=g3
 have hl4:2<=((n.kids.getD 0 (.mk 0 0 false [] [])).kids.getD 4 (.mk 0 0 false [] [])).kids.length:=by
  have h:=g3;simp only [xR,xB,a_] at h;exact Jv.1 h.1.2
 refine W ?_;refine HB U U (cy _) (λhq=>Jr 3 4 U U U U U U U U U (bad (by unfold AV;rw [show(zC (kd (bk n 4) 0)).2=false from hq];simp))) (λd' hd=>?_);obtain⟨g4,rfl⟩:=hd;refine W ?_;refine HB U U (cy _) (λhq=>Jr 3 4 U U U U U U U U U (bad (by unfold AV;rw [show(zC (kd (bk n 4) 1)).2=false from hq];simp))) (λd' hd=>?_);obtain⟨g5,rfl⟩:=hd;refine W ?_;refine HB U U (Z8 _ (xJ (dV _ 7) xE)) (λhq=>Jr 3 4 U U U U U U U U U (bad (by unfold AV;rw [show GZ (F9 n)=false from hq];simp))) (λd' hd=>?_);obtain⟨g6,rfl⟩:=hd
 replace g6:GZ (F9 n)=true:=g6
 refine W ?_;refine HB U U (a2j _ xE) (λhq=>Jr 3 4 U U U U U U U U U (bad (by unfold AV;rw [show KP (bk n 6)=false from hq];simp))) (λd' hd=>?_);obtain⟨g7,rfl⟩:=hd;have zt:AV n=true:=by
  unfold AV;rw [hA,show(nameOf (bk n 3)).2=true from g1,NG,show xR (bk n 4) 2 2=true from g3,show(zC (kd (bk n 4) 0)).2=true from g4,show(zC (kd (bk n 4) 1)).2=true from g5,g6,show KP (bk n 6)=true from g7];rfl
 have hO:Bb n=if I0 n=0 then(I1 n,0) else(Pv,I0 n):=by unfold Bb;rw [zt,xD rfl]
 have ce:=vD (Ff (F9 n)) (xJ (Vz g6) yD) hx;refine W ?_;refine Bg U U (λg8=>?_) (λg8=>?_)
 ·replace g8:(Es (bk n 6)).2=0:=g8
  refine W ?_;refine Ci U (λg9=>?_) (λg9=>?_)
  ·have e:I0 n=62:=by
    unfold I0;rw [xD g8,xC];rw [show D8 (Ff (F9 n))=false from g9];decide
   refine W ?_;refine RtO 3 4 U U U U U U U U U U U ?_;rw [hO,e,xC yD];rfl
  ·have e:I0 n=0:=by
    unfold I0;rw [xD g8,xD];exact g9
   refine W ?_;refine Ci U (λg10=>?_) (λg10=>?_)
   ·exact absurd g8 g10
   refine W ?_;refine RtO 3 4 U U U U U U U U U U U ?_;rw [hO,e,xD rfl];rfl
 ·replace g8:¬ (Es (bk n 6)).2=0:=g8
  have e:I0 n=(Es (bk n 6)).2:=xC g8;refine W ?_;refine Ci U (λg9=>?_) (λg9=>?_)
  ·refine W ?_;refine RtO 3 4 U U U U U U U U U U U ?_;rw [hO,e,xC g8];rfl
  ·exact absurd g9 g8
theorem ZI (n:Nd):H8 n=⟨Ao (bk n 1),(nameOf (bk n 2)).1,(zC (bk n 3)).1,(zC (bk n 4)).1,if Sl n then(EF (bk n 5)).1 else [],(kd n 2).bytes.drop 1⟩:=rfl
abbrev L4 (n:Nd) (i:Nat):Nd:=(n.kids.getD 0 (.mk 0 0 false [] [])).kids.getD i (.mk 0 0 false [] [])
theorem Xl (n:Nd) (hz:n.sz<=1073741824) (hw:Vq (H8 n)) (hA:Vj n=true) (hl0:n.kids.length=3) (P6:5<=(n.kids.getD 0 (.mk 0 0 false [] [])).kids.length/\(n.kids.getD 0 (.mk 0 0 false [] [])).kids.length<=6) (e:Env) :
 JD prog (FE prog e 174 Tryz.f82 λd'=>d'=.zZ [.st (Eb n).1.enc,.i (Eb n).2]) (Za 7 (Tryz.f82.body.getD .skip)) (RtD prog Tryz.f82 λd'=>d'=.zZ [.st (Eb n).1.enc,.i (Eb n).2]) IM
  [(1,.own 0 0),(2,.own 1 0),(4,.d (KU 180)),(5,.d (.AX (n.kids.getD 0 (.mk 0 0 false [] [])).kids)),(7,.d (.i (L4 n 0).D7)),(8,.d (.b (L4 n 0).AA)),(9,.own 3 0)]
  [(3,.B1 59 (.st [.i (Ao (L4 n 1)),.v (.slice none 0 0),.i 0,.i 0,.v (.slice none 0 0),.bs ((n.kids.getD 2 (.mk 0 0 false [] [])).bytes.drop 1)])),(2,.B1 33 (.nd (n.kids.getD 2 (.mk 0 0 false [] [])))),(1,.var 59 [.d (.i 0),.d (.v (.slice none 0 0)),.d (.i 0),.d (.i 0),.d (.v (.slice none 0 0)),.d (.v (.slice none 0 0))]),(0,.B1 33 (.nd n))]:=by
 have bad:Gg n=false->yR [.st cl0.enc,.i 60]=.zZ [.st (Eb n).1.enc,.i (Eb n).2]:=λhb=>by unfold Eb;rw [hb];rfl
 have q0:Lu n=false->yR [.st cl0.enc,.i 60]=.zZ [.st (Eb n).1.enc,.i (Eb n).2]:=λhb=>bad (by unfold Gg;rw [hb];rfl);have hcr:=eo (H8 n) hw;have k0:=b_ n 0;have k1:=b_ n 1;have b0:=b_ (n.kids.getD 0 (.mk 0 0 false [] [])) 0;have b1:=b_ (n.kids.getD 0 (.mk 0 0 false [] [])) 1;have b2:=b_ (n.kids.getD 0 (.mk 0 0 false [] [])) 2;have b3:=b_ (n.kids.getD 0 (.mk 0 0 false [] [])) 3;have b4:=b_ (n.kids.getD 0 (.mk 0 0 false [] [])) 4;have b5:=b_ (n.kids.getD 0 (.mk 0 0 false [] [])) 5;refine W ?_;refine EK 105 U (λhc p1=>?_) (λhc p1=>?_)
 ·rw [hc];refine W ?_;exact Rt U U (q0 (by unfold Lu;rw [show(bk n 0).AA=false by unfold bk kd;simpa using hc];simp))
 rw [hc];refine W ?_;refine EK 112 U (λhc p2=>?_) (λhc p2=>?_)
 ·rw [hc];refine W ?_;exact Rt U U (q0 (by unfold Lu;rw [show decide ((bk n 0).tag=2)=false from ah p2];simp))
 rw [hc];refine W ?_;refine EK 116 U (λhc p3=>?_) (λhc p3=>?_)
 ·rw [hc];refine W ?_;exact Rt U U (q0 (by unfold Lu;rw [show decide ((bk n 0).D7=1)=false from ah p3];simp))
 rw [hc];refine W ?_;refine EK 120 U (λhc p4=>?_) (λhc p4=>?_)
 ·rw [hc];refine W ?_;exact Rt U U (q0 (by unfold Lu;rw [show(nameOf (bk n 2)).2=false by unfold bk kd;simpa using hc];simp))
 rw [hc];refine W ?_;refine EK 124 U (λhc p5=>?_) (λhc p5=>?_)
 ·rw [hc];refine W ?_;exact Rt U U (q0 (by unfold Lu;rw [show(zC (bk n 3)).2=false by unfold bk kd;simpa using hc];simp))
 rw [hc];refine W ?_;refine EK 128 U (λhc p6=>?_) (λhc p6=>?_)
 ·rw [hc];refine W ?_;exact Rt U U (q0 (by unfold Lu;rw [show(zC (bk n 4)).2=false by unfold bk kd;simpa using hc];simp))
 rw [hc];refine W ?_;refine Ci U (λp7=>?_) (λp7=>?_)
 ·refine W ?_;exact Rt U U (q0 (by unfold Lu;rw [show decide (Ao (kd n 1)=Ao (bk n 1))=false from ah p7];simp))
 have hQ:Lu n=true:=by
  unfold Lu;rw [hA,show(bk n 0).AA=true by unfold bk kd;simpa using p1,show decide ((bk n 0).tag=2)=true from ae (by first|exact p2|exact xM.1 p2),show decide ((bk n 0).D7=1)=true from ae (by first|exact p3|exact xM.1 p3),show(nameOf (bk n 2)).2=true by unfold bk kd;simpa using p4,show(zC (bk n 3)).2=true by unfold bk kd;simpa using p5,show(zC (bk n 4)).2=true by unfold bk kd;simpa using p6,show decide (Ao (kd n 1)=Ao (bk n 1))=true from ae (by first|exact p7|exact xM.1 p7)];rfl
 refine Ka [1,2,4,5,9,10,12,14] U ?_;refine W ?_;refine Ci U (λg1=>?_) (λg1=>?_)
 ·have hG:Sl n=true:=ae g1;have hl6:(n.kids.getD 0 (.mk 0 0 false [] [])).kids.length=6:=by omega
  refine W ?_;refine Ci U (λg2=>?_) (λg2=>?_)
  ·have NG:FV (bk n 5)=false:=by
    have h:(EF (L4 n 5)).2=false:=by simpa using g2
    unfold EF at h;cases hh:FV (bk n 5) with
    |false=>rfl
    |true=>rw [show FV (L4 n 5)=true from hh] at h;cases h
   refine W ?_;exact Rt U U (bad (by unfold Gg;rw [hG,NG];simp))
  have NG:FV (bk n 5)=true:=by
   have h:(EF (L4 n 5)).2=true:=by simpa using g2
   unfold EF at h;cases hh:FV (bk n 5) with
   |true=>rfl
   |false=>rw [show FV (L4 n 5)=false from hh] at h;cases h
  have hV:H8 n=⟨Ao (L4 n 1),(nameOf (L4 n 2)).1,(zC (L4 n 3)).1,(zC (L4 n 4)).1,(EF (L4 n 5)).1,(n.kids.getD 2 (.mk 0 0 false [] [])).bytes.drop 1⟩:=by
   rw [ZI,hG];rfl
  rw [hV] at hcr;refine W ?_;refine Ci U (λq1=>?_) (λq1=>?_)
  ·refine W ?_;exact Rt U U (bad (by unfold Gg;rw [hV,ah q1,yA]))
  ·refine W ?_;refine Rt U U ?_;have hE:Gh (H8 n)=0:=by rw [hV];simpa using q1
   have zt:Gg n=true:=by unfold Gg;rw [hQ,hG,NG,ae hE];rfl
   unfold Eb;rw [xD zt,hV];rfl
 ·have hG:Sl n=false:=ah g1;have hV:H8 n=⟨Ao (L4 n 1),(nameOf (L4 n 2)).1,(zC (L4 n 3)).1,(zC (L4 n 4)).1,[],(n.kids.getD 2 (.mk 0 0 false [] [])).bytes.drop 1⟩:=by
   rw [ZI,hG];rfl
  rw [hV] at hcr;refine W ?_;refine Ci U (λq1=>?_) (λq1=>?_)
  ·refine W ?_;exact Rt U U (bad (by unfold Gg;rw [hV,ah q1,yA]))
  ·refine W ?_;refine Rt U U ?_;have hE:Gh (H8 n)=0:=by rw [hV];simpa using q1
   have zt:Gg n=true:=by unfold Gg;rw [hQ,hG,ae hE];rfl
   unfold Eb;rw [xD zt,hV];rfl
theorem oN (n:Nd) (hz:n.sz<=1073741824) (hw:Vq (H8 n)):yq prog 82 [.nd n] (.zZ [.st (Eb n).1.enc,.i (Eb n).2]):=by
 have bad:Gg n=false->yR [.st cl0.enc,.i 60]=.zZ [.st (Eb n).1.enc,.i (Eb n).2]:=λhb=>by unfold Eb;rw [hb];rfl
 have q0:Lu n=false->yR [.st cl0.enc,.i 60]=.zZ [.st (Eb n).1.enc,.i (Eb n).2]:=λhb=>bad (by unfold Gg;rw [hb];rfl);have hcr:=eo (H8 n) hw;have k0:=b_ n 0;have k1:=b_ n 1;have k2:=b_ n 2;have b0:=b_ (n.kids.getD 0 (.mk 0 0 false [] [])) 0;have b1:=b_ (n.kids.getD 0 (.mk 0 0 false [] [])) 1;have b2:=b_ (n.kids.getD 0 (.mk 0 0 false [] [])) 2;have b3:=b_ (n.kids.getD 0 (.mk 0 0 false [] [])) 3;have b4:=b_ (n.kids.getD 0 (.mk 0 0 false [] [])) 4;have b5:=b_ (n.kids.getD 0 (.mk 0 0 false [] [])) 5;have kb:=bc (n.kids.getD 2 (.mk 0 0 false [] []));refine an func82 U ntmps82 U (λe=>?_);refine W ?_;refine Bg U U (λh1=>?_) (λh1=>?_)
 ·have E_:n.put.isSome=false:=by simpa using h1
  refine W ?_;exact Rt U U (q0 (by unfold Lu Vj;rw [E_];rfl))
 have E_:n.put.isSome=true:=by simpa using h1
 refine W ?_;refine Bg U U (λh2=>?_) (λh2=>?_)
 ·have ME:xR n 3 3=false:=by simp_all
  refine W ?_;exact Rt U U (q0 (by unfold Lu Vj;rw [ME];simp))
 have ME:xR n 3 3=true:=by simp_all
 refine W ?_;refine Ci U (λh3=>?_) (λh3=>?_)
 ·have NF:xR (kd n 0) 5 6=false:=by unfold kd;simpa using h3
  refine W ?_;exact Rt U U (q0 (by unfold Lu Vj;rw [NF];simp))
 have NF:xR (kd n 0) 5 6=true:=by unfold kd;simp_all
 have hl0:n.kids.length=3:=by
  have:=ME;exact m150
 have P6:5<=(n.kids.getD 0 (.mk 0 0 false [] [])).kids.length/\(n.kids.getD 0 (.mk 0 0 false [] [])).kids.length<=6:=by
  have:=NF;unfold kd at this;exact m150
 have Me:(n.kids.getD 2 (.mk 0 0 false [] [])).put.isSome=true:=bV E_ _ (by rw [aU xE];exact ax _);refine W ?_;refine Bg U U (λh4=>?_) (λh4=>?_)
 ·have Is:decide ((kd n 2).cls=0)=false:=ah h4;refine W ?_;exact Rt U U (q0 (by unfold Lu Vj;rw [Is];simp))
 have Is:(n.kids.getD 2 (.mk 0 0 false [] [])).cls=0:=by simpa using h4
 refine W ?_;refine Bg U U (λh5=>?_) (λh5=>?_)
 ·have MD:decide ((kd n 2).tag=3)=false:=ah h5;refine W ?_;exact Rt U U (q0 (by unfold Lu Vj;rw [MD];simp))
 have MD:(n.kids.getD 2 (.mk 0 0 false [] [])).tag=3:=by simpa using h5
 have Nz:0<(n.kids.getD 2 (.mk 0 0 false [] [])).bytes.length:=by
  have hv:=(k9 Me Is MD yD).2.2;rw [qd rfl] at hv;unfold DM at hv;have:=(xV hv).1;exact O_ λe=>this (.inl e)
 refine W ?_;refine Ci U (λh6=>?_) (λh6=>?_)
 ·have h6':decide ((((kd n 2).bytes.getD 0 0).toNat:Int)=0)=false:=ah h6;refine W ?_;exact Rt U U (q0 (by unfold Lu Vj;rw [h6'];simp))
 have h6':decide ((((kd n 2).bytes.getD 0 0).toNat:Int)=0)=true:=ae (by simpa [kd] using h6);refine Ka [1,2,4,5,6] U ?_;refine W ?_;refine bm U (yi.Z1 1 U U U U U xE U U) ?_;refine bm U (yi.KY kB U U U U (by rw [aM];omega) U U) ?_;refine Wn ?_;refine bI U ?_;refine Ka [1,2,4,5,7,8,9] U ?_;have hA:Vj n=true:=by
  unfold Vj;rw [E_,ME,NF,ae (show(kd n 2).cls=0 from Is),ae (show(kd n 2).tag=3 from MD),h6'];rfl
 exact Xl n hz hw hA hl0 P6 e
instance:Cn prog 82 (type_of% @oN):=⟨@oN⟩
theorem pT (n:Nd) (hz:n.sz<=1073741824) (hx:∀ x∈Ff (F9 n),XtS x):yq prog 81 [.nd n] (.zZ [.st (Bb n).1.enc,.i (Bb n).2]):=by
 have bad:AV n=false->D.zZ [.st Pv.enc,.i 60]=.zZ [.st (Bb n).1.enc,.i (Bb n).2]:=λhb=>by unfold Bb;rw [hb];rfl
 have k0:=b_ n 0;have k1:=b_ n 1;have k2:=b_ n 2;have b0:=b_ (n.kids.getD 0 (.mk 0 0 false [] [])) 0;have b1:=b_ (n.kids.getD 0 (.mk 0 0 false [] [])) 1;have b2:=b_ (n.kids.getD 0 (.mk 0 0 false [] [])) 2;have b3:=b_ (n.kids.getD 0 (.mk 0 0 false [] [])) 3;have b4:=b_ (n.kids.getD 0 (.mk 0 0 false [] [])) 4;have b5:=b_ (n.kids.getD 0 (.mk 0 0 false [] [])) 5;have b6:=b_ (n.kids.getD 0 (.mk 0 0 false [] [])) 6;have b00:=b_ ((n.kids.getD 0 (.mk 0 0 false [] [])).kids.getD 0 (.mk 0 0 false [] [])) 0;have b40:=b_ ((n.kids.getD 0 (.mk 0 0 false [] [])).kids.getD 4 (.mk 0 0 false [] [])) 0;have b41:=b_ ((n.kids.getD 0 (.mk 0 0 false [] [])).kids.getD 4 (.mk 0 0 false [] [])) 1;refine OF.intro U (λw0 h0 bC bE=>?_);refine W ?_;refine Bg U U (λh1=>?_) (λh1=>?_)
 rotate_left
 ·have E_:n.put.isSome=false:=by simpa using h1
  refine W ?_;refine HB U U (cy _) (λhq=>Jr 3 4 U U U U U U U U U (bad (by unfold AV EH;rw [E_];rfl))) (λd' hd=>?_);cases hd.1
 have E_:n.put.isSome=true:=by simpa using h1
 refine W ?_;refine Bg U U (λh2=>?_) (λh2=>?_)
 rotate_left
 ·have ME:xR n 3 3=false:=by simp_all
  refine W ?_;refine HB U U (cy _) (λhq=>Jr 3 4 U U U U U U U U U (bad (by unfold AV EH;rw [ME];simp))) (λd' hd=>?_);cases hd.1
 have ME:xR n 3 3=true:=by simp_all
 have hl0:n.kids.length=3:=by
  have:=ME;exact m150
 refine W ?_;refine HB U U (cy _) (λhq=>Jr 3 4 U U U U U U U U U (bad (by unfold AV EH;rw [show xR (kd n 0) 7 8=false from hq];simp))) (λd' hd=>?_);obtain⟨h3,rfl⟩:=hd
 replace h3:xR (n.kids.getD 0 (.mk 0 0 false [] [])) 7 8=true:=h3
 have P6:7<=(n.kids.getD 0 (.mk 0 0 false [] [])).kids.length/\(n.kids.getD 0 (.mk 0 0 false [] [])).kids.length<=8:=by
  have:=h3;exact m150
 refine W ?_;refine Bg U U (λh4=>?_) (λh4=>?_)
 rotate_left
 ·refine W ?_;refine HB U U (cy _) (λhq=>Jr 3 4 U U U U U U U U U (bad (by unfold AV EH KC;rw [ah (show ¬ (bk n 0).cls=2 from h4)];simp))) (λd' hd=>?_);cases hd.1
 refine W ?_;refine Bg U U (λh5=>?_) (λh5=>?_)
 rotate_left
 ·refine W ?_;refine HB U U (cy _) (λhq=>Jr 3 4 U U U U U U U U U (bad (by unfold AV EH KC;rw [ah (show ¬ (bk n 0).tag=0 from h5)];simp))) (λd' hd=>?_);cases hd.1
 refine W ?_;refine Bg U U (λh6=>?_) (λh6=>?_)
 rotate_left
 ·refine W ?_;refine HB U U (cy _) (λhq=>Jr 3 4 U U U U U U U U U (bad (by unfold AV EH KC;rw [ah (show ¬ ((bk n 0).kids.length:Int)=1 from h6)];simp))) (λd' hd=>?_);cases hd.1
 refine W ?_;refine Bg U U (λh7=>?_) (λh7=>?_)
 rotate_left
 ·have U_:Dq (kd (bk n 0) 0) 2=false:=by unfold bk kd;simpa using h7
  refine W ?_;refine HB U U (cy _) (λhq=>Jr 3 4 U U U U U U U U U (bad (by unfold AV EH KC;rw [U_];simp))) (λd' hd=>?_);cases hd.1
 have U_:Dq (kd (bk n 0) 0) 2=true:=by unfold bk kd;simp_all
 refine W ?_;refine HB U U (cy _) (λhq=>Jr 3 4 U U U U U U U U U (bad (by unfold AV EH KC;rw [show decide ((kd (bk n 0) 0).bytes=[2])=false from hq];simp))) (λd' hd=>?_);obtain⟨h8,rfl⟩:=hd
 replace h8:decide ((kd (bk n 0) 0).bytes=[2])=true:=h8
 have hv:KC (bk n 0)=true:=by
  unfold KC;rw [ae (show(bk n 0).cls=2 from h4),ae (show(bk n 0).tag=0 from h5),ae (show((bk n 0).kids.length:Int)=1 from h6),U_,h8];rfl
 refine W ?_;refine Bg U U (λg1=>?_) (λg1=>?_)
 rotate_left
 ·have Ln:(bk n 1).Cu=false:=by unfold bk kd;simpa using g1
  refine W ?_;refine HB U U (cy _) (λhq=>Jr 3 4 U U U U U U U U U (bad (by unfold AV EH;rw [Ln];simp))) (λd' hd=>?_);cases hd.1
 have Ln:(bk n 1).Cu=true:=by unfold bk kd;simpa using g1
 refine W ?_;refine Bg U U (λg2=>?_) (λg2=>?_)
 rotate_left
 ·refine W ?_;refine HB U U (cy _) (λhq=>Jr 3 4 U U U U U U U U U (bad (by unfold AV EH;rw [ah (show ¬ (bk n 1).tag=2 from g2)];simp))) (λd' hd=>?_);cases hd.1
 refine W ?_;refine Bg U U (λg3=>?_) (λg3=>?_)
 rotate_left
 ·refine W ?_;refine HB U U (cy _) (λhq=>Jr 3 4 U U U U U U U U U (bad (by unfold AV EH;rw [ah (show ¬ 0<zQ (bk n 1).BE from g3)];simp))) (λd' hd=>?_);cases hd.1
 refine W ?_;refine HB U U (cy _) (λhq=>Jr 3 4 U U U U U U U U U (bad (by unfold AV EH;rw [show decide (zQ (bk n 1).BE<=160)=false from hq];simp))) (λd' hd=>?_);obtain⟨g4,rfl⟩:=hd
 replace g4:decide (zQ (bk n 1).BE<=160)=true:=g4
 have b0E:((bk n 1).Cu&&decide ((bk n 1).tag=2)&&decide (0<zQ (bk n 1).BE)&&decide (zQ (bk n 1).BE<=160))=true:=by
  rw [Ln,ae (show(bk n 1).tag=2 from g2),ae (show 0<zQ (bk n 1).BE from g3),g4];rfl
 have cb0:=rQ (n.kids.getD 2 (.mk 0 0 false [] [])) xE;cases hbo:CA (n.kids.getD 2 (.mk 0 0 false [] [])) with
 |false =>
  have Ir:=bad (by unfold AV EH;rw [show CA (kd n 2)=false from hbo];simp);refine W ?_;refine Xpn 0 [1,3,4] [107,2,3] U U cb0 (λd' h=>by rw [hbo] at h;cases h.1) (λA' O' hA hO=>Jr 3 4 (hA.lk U) (hA.lk U) ((hO 0 U).trans U) U U ((hO 1 U).trans U) U ((hO 3 U).trans U) ((hO 4 U).trans U) Ir) ?_;refine Wn ?_;refine bI U ?_;exact JD.dead 108 U
 |true =>
  have cb:yq prog 174 [.nd (n.kids.getD 2 (.mk 0 0 false [] []))] (.bs ((n.kids.getD 2 (.mk 0 0 false [] [])).bytes.drop 1)):=(cb0.to (by rw [hbo];simp)).imp λd h=>h.2;refine Al.nil ?_;refine Ka [1,2,3,4,5] U ?_;refine W ?_;refine EK 115 U (λhc p1=>?_) (λhc p1=>?_)
  rotate_left
  ·rw [hc];refine W ?_;refine Xpn 0 [1,3,4] [136,2,3] U U (cy _) (λd' h=>by cases h.1) (λA' O' hA hO=>Jr 3 4 (hA.lk U) (hA.lk U) ((hO 0 U).trans U) U U ((hO 1 U).trans U) U ((hO 3 U).trans U) ((hO 4 U).trans U) (bad (by unfold AV EH;rw [show decide (Ao (bk n 2)≠0)=false from hc];simp))) ?_;refine bI U ?_;exact JD.dead 137 U
  rw [hc];refine W ?_;refine EK 125 U (λhc p2=>?_) (λhc p2=>?_)
  rotate_left
  ·rw [hc];refine W ?_;refine Xpn 0 [1,3,4] [136,2,3] U U (cy _) (λd' h=>by cases h.1) (λA' O' hA hO=>Jr 3 4 (hA.lk U) (hA.lk U) ((hO 0 U).trans U) U U ((hO 1 U).trans U) U ((hO 3 U).trans U) ((hO 4 U).trans U) (bad (by unfold AV EH;rw [show decide (Ao (kd n 1)=Ao (bk n 2))=false from hc];simp))) ?_;refine bI U ?_;exact JD.dead 137 U
  rw [hc];refine W ?_;refine EK 131 U (λhc p3=>?_) (λhc p3=>?_)
  rotate_left
  ·rw [hc];refine W ?_;refine Xpn 0 [1,3,4] [136,2,3] U U (cy _) (λd' h=>by cases h.1) (λA' O' hA hO=>Jr 3 4 (hA.lk U) (hA.lk U) ((hO 0 U).trans U) U U ((hO 1 U).trans U) U ((hO 3 U).trans U) ((hO 4 U).trans U) (bad (by unfold AV EH;rw [show decide (1<=(((kd n 2).bytes.drop 1).length:Int))=false from hc];simp))) ?_;refine bI U ?_;exact JD.dead 137 U
  rw [hc];refine W ?_;cases G4:decide ((((n.kids.getD 2 (.mk 0 0 false [] [])).bytes.drop 1).length:Int)<=512) with
  |false =>
   refine Xpn 0 [1,3,4] [136,2,3] U U (cy _) (λd' h=>by cases h.1) (λA' O' hA hO=>Jr 3 4 (hA.lk U) (hA.lk U) ((hO 0 U).trans U) U U ((hO 1 U).trans U) U ((hO 3 U).trans U) ((hO 4 U).trans U) (bad (by unfold AV EH;rw [show decide ((((kd n 2).bytes.drop 1).length:Int)<=512)=false from G4];simp))) ?_;refine bI U ?_;exact JD.dead 137 U
  |true =>
   refine Cx U U (((cy true).to (by simp)).imp λd h=>h.2) ?_;refine bI U ?_;refine Ka [1,2,3,4] U ?_;have hA:EH n=true:=by
    unfold EH;rw [E_,ME,show xR (kd n 0) 7 8=true from h3,hv,b0E,show CA (kd n 2)=true from hbo,show decide (Ao (bk n 2)≠0)=true from ae p1,show decide (Ao (kd n 1)=Ao (bk n 2))=true from ae p2,show decide (1<=(((kd n 2).bytes.drop 1).length:Int))=true from ae p3,show decide ((((kd n 2).bytes.drop 1).length:Int)<=512)=true from G4];rfl
   exact ZM n hz hx hA P6 w0 h0 bC bE
instance:Cn prog 81 (type_of% @pT):=⟨@pT⟩
def UU (n:Nd):Bool:=!Cq n||((za (lk (Fk n) 0).kids).2&&decide (0<((za (lk (Fk n) 0).kids).1.length:Int)))
def okU (n:Nd):Bool:=!decide (((B4 n).length:Int)=3)||((za (lk (B4 n) 2).kids).2&&zd (lk (B4 n) 2) 1 true&&decide (0<((za (lk (B4 n) 2).kids).1.length:Int)))
theorem eh (n:Nd):HJ n=(n.put.isSome&&xR n 5 7&&Ga (kd n 0) (kd n 1)&&decide (2<=((B4 n).length:Int))&&decide (((B4 n).length:Int)<=3)&&decide (Ao (lk (B4 n) 0)=CX (kd n 2))&&decide ((lk (B4 n) 1).cls=0)&&decide ((lk (B4 n) 1).tag=4)&&UU n&&okU n&&z_ (BV n)):=rfl
theorem a50 (n:Nd):BV n=⟨DL (kd n 1),E2 (kd n 1),El (kd n 1),CX (kd n 2),(BV n).signed,(lk (B4 n) 1).bytes,(BV n).yc⟩:=rfl
structure SgQ (n:Nd):Prop where
 z:n.sz<=1000000
 w:SgW (BV n)
 f1:Cq n=true->∀ k∈(lk (Fk n) 0).kids,IP (yU k).1
 f2:((B4 n).length:Int)=3->∀ k∈(lk (B4 n) 2).kids,IP (yU k).1
 l1:Cq n=true->(lk (Fk n) 0).kids.length<=400000
 l2:((B4 n).length:Int)=3->(lk (B4 n) 2).kids.length<=400000
theorem RQ {k:Nd}(hz:k.sz<=8000):IP (yU k).1:=by
 cases h:(yU k).2 with
 |true=>exact RP hz h
 |false =>
  have e:(yU k).1=⟨[],[]⟩:=by
   unfold yU at h |-
   split at h
   ·cases h
   ·rename_i hn;rw [xC hn]
  rw [e];exact⟨⟨by decide,xJ (dD []) yD⟩,by decide,λv hv=>by cases hv⟩
theorem a4X {n:Nd}(hz:n.sz<=8000):SgQ n:=by
 have hT:=um n;have hU:=Ol n;have l0:=jt (Fk n) 0;have l2:=jt (B4 n) 2;have z0:=d9 (lk (Fk n) 0);have z2:=d9 (lk (B4 n) 2);have n0:=dQ (lk (Fk n) 0);have n2:=dQ (lk (B4 n) 2);exact⟨by omega,a3w hz,λ_ k hk=>RQ (by have:=bX hk;omega),λ_ k hk=>RQ (by have:=bX hk;omega),λ_=>by omega,λ_=>by omega⟩
theorem a4W {n:Nd}(h:HJ n=true) (hz:n.sz<=1000000) (hw:SgW (BV n)):SgQ n:=by
 have go:∀ ks:LN,(za ks).2=true->(za ks).1=ks.map (λk=>(yU k).1):=λks h=>by
  unfold za at h |-
  split at h
  ·rename_i hk;rw [xD hk]
  ·cases h
 rw [eh] at h;simp only [xB] at h;obtain⟨⟨⟨_,hs⟩,hu⟩,_⟩:=h;have a1:Cq n=true->(BV n).signed=(lk (Fk n) 0).kids.map (λk=>(yU k).1):=λhH=>by
  have e:(BV n).signed=(za (lk (Fk n) 0).kids).1:=xD hH;unfold UU at hs;rw [hH] at hs;simp only [ym,BN,xB] at hs;rw [e];exact go _ hs.1
 have a2:((B4 n).length:Int)=3->(BV n).yc=(lk (B4 n) 2).kids.map (λk=>(yU k).1):=λhH=>by
  have e:(BV n).yc=(za (lk (B4 n) 2).kids).1:=xD hH;unfold okU at hu;rw [ae hH] at hu;simp only [ym,BN,xB] at hu;rw [e];exact go _ hu.1.1
 refine⟨hz,hw,λhH k hk=>hw.a4Z _ (by rw [a1 hH];exact List.mem_map_of_mem hk),λhH k hk=>hw.a4B _ (by rw [a2 hH];exact List.mem_map_of_mem hk),λhH=>?_,λhH=>?_⟩
 ·have:=hw.sgd;rw [a1 hH,aq] at this;exact this
 ·have:=hw.uns;rw [a2 hH,aq] at this;exact this
theorem jc (n:Nd) (hQ:SgQ n):yq prog 83 [.nd n] (.zZ [.st (C5 n).1.enc,.b (C5 n).2]):=by
 obtain⟨hz,hw,hf1,hf2,P6,Lg⟩:=hQ
 replace hf1:Cq n=true->∀ k∈((n.kids.drop 3).getD 0 (.mk 0 0 false [] [])).kids,IP (yU k).1:=hf1
 replace P6:Cq n=true->((n.kids.drop 3).getD 0 (.mk 0 0 false [] [])).kids.length<=400000:=P6
 have hcr:=kQ (BV n) hw;rw [a50 n] at hcr;have bad:HJ n=false->yR [.st sg0.enc,.b false]=.zZ [.st (C5 n).1.enc,.b (C5 n).2]:=λhb=>by
  unfold C5;rw [hb];rfl
 have k0:=b_ n 0;have k1:=b_ n 1;have k2:=b_ n 2;have hT:=um n;have hU:=Ol n;refine an func83 rfl ntmps83 rfl (λe=>?_);refine W ?_;refine Bg rfl rfl (λg1=>?_) (λg1=>?_)
 ·have Ln:n.put.isSome=false:=by simpa using g1
  refine W ?_;exact Rt rfl rfl (bad (by rw [eh,Ln];simp))
 refine W ?_;refine Ci rfl (λg2=>?_) (λg2=>?_)
 ·have NG:xR n 5 7=false:=by simp_all
  refine W ?_;exact Rt rfl rfl (bad (by rw [eh,NG];simp))
 have Ln:n.put.isSome=true:=by simp_all
 have NG:xR n 5 7=true:=by simp_all
 have g2l:5<=(n.kids.length:Int)/\(n.kids.length:Int)<=7:=by
  have h:=NG;simp only [xR,xB,a_] at h;exact⟨h.1.2,h.2⟩
 refine W ?_;refine Xcp (os1:=[]) rfl rfl rfl rfl rfl rfl rfl (a7K (n.kids.getD 0 (.mk 0 0 false [] [])) (n.kids.getD 1 (.mk 0 0 false [] [])) xE xE) rfl ?_;refine W ?_;refine Ci rfl (λg3=>?_) (λg3=>?_)
 ·have Ve:Ga (kd n 0) (kd n 1)=false:=by unfold kd;simpa using g3
  refine W ?_;exact Rt rfl rfl (bad (by rw [eh,Ve];simp))
 have Ve:Ga (kd n 0) (kd n 1)=true:=by unfold kd;simpa using g3
 have hw:VD (n.kids.getD 0 (.mk 0 0 false [] [])) (n.kids.getD 1 (.mk 0 0 false [] []))=Sg.enc ⟨DL (kd n 1),E2 (kd n 1),El (kd n 1),0,[],[],[]⟩:=by
  show VD (kd n 0) (kd n 1)=_;unfold VD;rw [Ve,xD rfl]
 rw [hw];have hTl:(n.kids.drop 3).length=n.kids.length-3:=aM ..;have hT0:Nd.yP ((n.kids.drop 3).getD 0 (.mk 0 0 false [] [])).kids<=1000000:=by
  have h1:((n.kids.drop 3).getD 0 (.mk 0 0 false [] [])).sz<=Nd.yP (n.kids.drop 3)+1:=jt (n.kids.drop 3) 0;have h2:=d9 ((n.kids.drop 3).getD 0 (.mk 0 0 false [] []));have h3:Nd.yP (n.kids.drop 3)+1<=n.sz:=hT;omega
 have hTd:(Fk n).length=n.kids.length-3:=hTl;refine W ?_;refine Jm (γ:=List Fe×LN×Bool) (λg=>[(1,.own 0 0),(2,.own 1 0),(4,.own 2 0),(5,.d (.AX g.2.1)),(6,.d (.bq g.2.2)),(7,.d (.v (.bool true)))])
  (λg=>[(2,.var 62 [.d (.sl 3 At.enc (DL (kd n 1))),.d (.ws (E2 (kd n 1))),.d (.bs (El (kd n 1))),.d (.i (CX (kd n 2))),.d (.sl 2 Fe.enc g.1),.d (.bs []),.d (.sl 2 Fe.enc [])]),(1,.var 62 [.d (.v (.slice none 0 0)),.d (.v (.slice none 0 0)),.d (.v (.slice none 0 0)),.d (.i 0),.d (.v (.slice none 0 0)),.d (.v (.slice none 0 0)),.d (.v (.slice none 0 0))]),(0,.B1 33 (.nd n))])
  (λg=>g.1=(BV n).signed/\g.2.1=B4 n/\g.2.2=UU n) ?_ ?_
 ·refine Ci rfl (λg4=>?_) (λg4=>?_)
  ·have hH:Cq n=true:=g4
   replace hf1:=hf1 hH
   replace P6:=P6 hH
   have e1:(BV n).signed=(za (lk (Fk n) 0).kids).1:=by show(if Cq n=true then _ else _)=_;rw [xD hH]
   have e2:B4 n=(Fk n).drop 1:=by unfold B4;rw [xD hH]
   have e3:UU n=((za (lk (Fk n) 0).kids).2&&decide (0<((za (lk (Fk n) 0).kids).1.length:Int))):=by unfold UU;rw [hH];rfl
   refine W ?_;refine Bg rfl rfl (λg5=>?_) (λg5=>?_)
   ·refine W ?_;exact⟨((za (lk (Fk n) 0).kids).1,(Fk n).drop 1,decide (0<((za (lk (Fk n) 0).kids).1.length:Int))),⟨e1.symm,e2.symm,by rw [e3,show(za (lk (Fk n) 0).kids).2=true from g5];rfl⟩,⟨⟨_,rfl,az⟩,⟨_,rfl,az⟩,⟨_,rfl,az⟩,⟨_,rfl,az⟩,⟨_,rfl,az⟩,⟨_,rfl,az⟩,trivial⟩,⟨rfl,rfl,rfl,trivial⟩⟩
   ·refine W ?_;exact⟨((za (lk (Fk n) 0).kids).1,(Fk n).drop 1,false),⟨e1.symm,e2.symm,by rw [e3,show(za (lk (Fk n) 0).kids).2=false from g5];rfl⟩,⟨⟨_,rfl,az⟩,⟨_,rfl,az⟩,⟨_,rfl,az⟩,⟨_,rfl,az⟩,⟨_,rfl,dL⟩,⟨_,rfl,az⟩,trivial⟩,⟨rfl,rfl,rfl,trivial⟩⟩
  ·have hH:Cq n=false:=g4;have e1:(BV n).signed=[]:=by show(if Cq n=true then _ else _)=_;rw [xC (by rw [hH];simp)]
   have e2:B4 n=Fk n:=by unfold B4;rw [xC (by rw [hH];simp)]
   have e3:UU n=true:=by unfold UU;rw [hH];rfl
   refine W ?_;exact⟨([],Fk n,true),⟨e1.symm,e2.symm,e3.symm⟩,⟨⟨_,rfl,az⟩,⟨_,rfl,az⟩,⟨_,rfl,az⟩,⟨_,rfl,az⟩,⟨_,rfl,dL⟩,⟨_,rfl,az⟩,trivial⟩,⟨rfl,rfl,rfl,trivial⟩⟩
 rintro⟨sgd,U,okv⟩ ⟨i1,i2,i3⟩;dsimp only at i1 i2 i3;subst i1 i2 i3;show JD _ _ _ _ _ [(1,.own 0 0),(2,.own 1 0),(4,.own 2 0),(5,.d (.AX (B4 n))),(6,.d (.bq (UU n))),(7,.d (.v (.bool true)))] [(2,.var 62 [.d (.sl 3 At.enc (DL (kd n 1))),.d (.ws (E2 (kd n 1))),.d (.bs (El (kd n 1))),.d (.i (CX (kd n 2))),.d (.sl 2 Fe.enc (BV n).signed),.d (.bs []),.d (.sl 2 Fe.enc [])]),(1,.var 62 [.d (.v (.slice none 0 0)),.d (.v (.slice none 0 0)),.d (.v (.slice none 0 0)),.d (.i 0),.d (.v (.slice none 0 0)),.d (.v (.slice none 0 0)),.d (.v (.slice none 0 0))]),(0,.B1 33 (.nd n))];have u0:((B4 n).getD 0 (.mk 0 0 false [] [])).sz<=1000001:=by have h:((B4 n).getD 0 (.mk 0 0 false [] [])).sz<=_:=jt (B4 n) 0;omega
 have u1:((B4 n).getD 1 (.mk 0 0 false [] [])).bytes.length<=1000001:=by
  have h:((B4 n).getD 1 (.mk 0 0 false [] [])).sz<=_:=jt (B4 n) 1;have h2:=bc ((B4 n).getD 1 (.mk 0 0 false [] []));omega
 have u2:Nd.yP ((B4 n).getD 2 (.mk 0 0 false [] [])).kids<=1000000:=by
  have h:((B4 n).getD 2 (.mk 0 0 false [] [])).sz<=_:=jt (B4 n) 2;have h2:=d9 ((B4 n).getD 2 (.mk 0 0 false [] []));omega
 refine W ?_;refine EK 62 rfl (λhc h5=>?_) (λhc h5=>?_)
 ·rw [hc];refine W ?_;exact Rt rfl rfl (bad (by rw [eh,ah (show ¬ 2<=((B4 n).length:Int) by omega)];simp))
 rw [hc];clear hc;refine W ?_;refine EK 67 rfl (λhc h6=>?_) (λhc h6=>?_)
 ·rw [hc];refine W ?_;exact Rt rfl rfl (bad (by rw [eh,ah (show ¬ ((B4 n).length:Int)<=3 by omega)];simp))
 rw [hc];clear hc;refine W ?_;refine EK 76 rfl (λhc h7=>?_) (λhc h7=>?_)
 ·rw [hc];refine W ?_;exact Rt rfl rfl (bad (by rw [eh,ah (show ¬ Ao (lk (B4 n) 0)=CX (kd n 2) from h7)];simp))
 rw [hc];clear hc;refine W ?_;refine EK 83 rfl (λhc h8=>?_) (λhc h8=>?_)
 ·rw [hc];refine W ?_;exact Rt rfl rfl (bad (by rw [eh,ah (show ¬ (lk (B4 n) 1).cls=0 from h8)];simp))
 rw [hc];clear hc;refine W ?_;refine Ci rfl (λh9=>?_) (λh9=>?_)
 ·refine W ?_;exact Rt rfl rfl (bad (by rw [eh,ah (show ¬ (lk (B4 n) 1).tag=4 from h9)];simp))
 refine W ?_;refine Jm (γ:=List Fe×Bool) (λg=>[(1,.own 0 0),(2,.own 1 0),(4,.own 2 0),(6,.d (.bq (UU n))),(7,.d (.bq g.2))])
  (λg=>[(2,.var 62 [.d (.sl 3 At.enc (DL (kd n 1))),.d (.ws (E2 (kd n 1))),.d (.bs (El (kd n 1))),.d (.i (CX (kd n 2))),.d (.sl 2 Fe.enc (BV n).signed),.d (.bs (lk (B4 n) 1).bytes),.d (.sl 2 Fe.enc g.1)]),(1,.var 62 [.d (.v (.slice none 0 0)),.d (.v (.slice none 0 0)),.d (.v (.slice none 0 0)),.d (.i 0),.d (.v (.slice none 0 0)),.d (.v (.slice none 0 0)),.d (.v (.slice none 0 0))]),(0,.B1 33 (.nd n))])
  (λg=>g.1=(BV n).yc/\g.2=okU n) ?_ ?_
 ·refine Ci rfl (λq1=>?_) (λq1=>?_)
  ·replace hf2:=hf2 q1
   replace Lg:=Lg q1
   have e1:(BV n).yc=(za (lk (B4 n) 2).kids).1:=by show(if((B4 n).length:Int)=3 then _ else _)=_;rw [xD q1]
   have e3:okU n=((za (lk (B4 n) 2).kids).2&&zd (lk (B4 n) 2) 1 true&&decide (0<((za (lk (B4 n) 2).kids).1.length:Int))):=by unfold okU;rw [ae q1];rfl
   refine W ?_;refine Bg rfl rfl (λq2=>?_) (λq2=>?_)
   ·refine W ?_;refine Bg rfl rfl (λq3=>?_) (λq3=>?_)
    ·refine W ?_;exact⟨((za (lk (B4 n) 2).kids).1,decide (0<((za (lk (B4 n) 2).kids).1.length:Int))),⟨e1.symm,by rw [e3,show(za (lk (B4 n) 2).kids).2=true from q2,show zd (lk (B4 n) 2) 1 true=true from q3];rfl⟩,⟨⟨_,rfl,az⟩,⟨_,rfl,az⟩,⟨_,rfl,az⟩,⟨_,rfl,az⟩,⟨_,rfl,az⟩,trivial⟩,⟨rfl,rfl,rfl,trivial⟩⟩
    ·refine W ?_;exact⟨((za (lk (B4 n) 2).kids).1,false),⟨e1.symm,by rw [e3,show zd (lk (B4 n) 2) 1 true=false from q3];simp⟩,⟨⟨_,rfl,az⟩,⟨_,rfl,az⟩,⟨_,rfl,az⟩,⟨_,rfl,az⟩,⟨_,rfl,dL⟩,trivial⟩,⟨rfl,rfl,rfl,trivial⟩⟩
   ·refine W ?_;exact⟨((za (lk (B4 n) 2).kids).1,false),⟨e1.symm,by rw [e3,show(za (lk (B4 n) 2).kids).2=false from q2];simp⟩,⟨⟨_,rfl,az⟩,⟨_,rfl,az⟩,⟨_,rfl,az⟩,⟨_,rfl,az⟩,⟨_,rfl,dL⟩,trivial⟩,⟨rfl,rfl,rfl,trivial⟩⟩
  ·have e1:(BV n).yc=[]:=by show(if((B4 n).length:Int)=3 then _ else _)=_;rw [xC q1]
   have e3:okU n=true:=by unfold okU;rw [ah q1];rfl
   refine W ?_;exact⟨([],true),⟨e1.symm,e3.symm⟩,⟨⟨_,rfl,az⟩,⟨_,rfl,az⟩,⟨_,rfl,az⟩,⟨_,rfl,az⟩,⟨_,rfl,dL⟩,trivial⟩,⟨rfl,rfl,rfl,trivial⟩⟩
 rintro⟨uns,okw⟩ ⟨i1,i2⟩;dsimp only at i1 i2;subst i1 i2;show JD _ _ _ _ _ [(1,.own 0 0),(2,.own 1 0),(4,.own 2 0),(6,.d (.bq (UU n))),(7,.d (.bq (okU n)))] [(2,.var 62 [.d (.sl 3 At.enc (DL (kd n 1))),.d (.ws (E2 (kd n 1))),.d (.bs (El (kd n 1))),.d (.i (CX (kd n 2))),.d (.sl 2 Fe.enc (BV n).signed),.d (.bs (lk (B4 n) 1).bytes),.d (.sl 2 Fe.enc (BV n).yc)]),(1,.var 62 [.d (.v (.slice none 0 0)),.d (.v (.slice none 0 0)),.d (.v (.slice none 0 0)),.d (.i 0),.d (.v (.slice none 0 0)),.d (.v (.slice none 0 0)),.d (.v (.slice none 0 0))]),(0,.B1 33 (.nd n))];refine W ?_;refine Bg rfl rfl (λp1=>?_) (λp1=>?_)
 ·have p1':UU n=false:=by simpa using p1
  refine W ?_;exact Rt rfl rfl (bad (by rw [eh,p1'];simp))
 have p1':UU n=true:=by simpa using p1
 refine W ?_;refine Bg rfl rfl (λp2=>?_) (λp2=>?_)
 ·have p2':okU n=false:=by simpa using p2
  refine W ?_;exact Rt rfl rfl (bad (by rw [eh,p2'];simp))
 have p2':okU n=true:=by simpa using p2
 refine W ?_;refine Ci rfl (λp3=>?_) (λp3=>?_)
 ·have p3':z_ (BV n)=false:=by
   first|exact p3|(have h:(!z_ (BV n))=true:=p3;simpa using h)
  refine W ?_;exact Rt rfl rfl (bad (by rw [eh,p3'];simp))
 have p3':z_ (BV n)=true:=by
  first|exact p3|(have h:(!z_ (BV n))=false:=p3;simpa using h)
 refine W ?_;refine Rt rfl rfl ?_;have zt:HJ n=true:=by
  rw [eh,Ln,NG,Ve,ae (show 2<=((B4 n).length:Int) by omega),ae (show((B4 n).length:Int)<=3 by omega),ae (show Ao (lk (B4 n) 0)=CX (kd n 2) from by first|exact h7|exact xM.1 h7),ae (show(lk (B4 n) 1).cls=0 from by first|exact h8|exact xM.1 h8),ae (show(lk (B4 n) 1).tag=4 from by first|exact h9|exact xM.1 h9),p1',p2',p3'];rfl
 unfold C5;rw [zt];rfl
instance:Cn prog 83 (type_of% @jc):=⟨@jc⟩
structure SdQ (n:Nd):Prop where
 z:n.sz<=1073741824
 c:E9 (CD n)=true->∀ k∈(lk (CD n) 0).kids,∀ x∈Ff (F9 k),XtS x
 l:E8 (Ah n)=true->∀ k∈(lk (Ah n) 0).kids,Vq (H8 k)
 s:∀ k∈(lk (BD n) 0).kids,SgQ k
theorem sP (n:Nd) (hQ:SdQ n) (hl:4<=(AE n).kids.length/\(AE n).kids.length<=6):Jx prog 30 28 [] (.st [.s [],.b false,A1,A1,A1,A1]) [.AX (AE n).kids] (λd d1=>d=.b (J4 n)/\(J4 n=true->d1=.st (BL n).enc)):=by
 obtain⟨hz,hC,hL,hS⟩:=hQ;have zI:(AE n).sz<=n.sz:=xJ (b_ (kd n 1) 0) (b_ n 1);have z2:=b_ (AE n) 2;have z20:=b_ ((AE n).kids.getD 2 (.mk 0 0 false [] [])) 0;have z21:=b_ ((AE n).kids.getD 2 (.mk 0 0 false [] [])) 1;have z210:=b_ (((AE n).kids.getD 2 (.mk 0 0 false [] [])).kids.getD 1 (.mk 0 0 false [] [])) 0;have zb:=bc ((((AE n).kids.getD 2 (.mk 0 0 false [] [])).kids.getD 1 (.mk 0 0 false [] [])).kids.getD 0 (.mk 0 0 false [] []));have no:J4 n=false->∀ d1,(D.b false=.b (J4 n)/\(J4 n=true->d1=D.st (BL n).enc)):=λh d1=>⟨by rw [h],λh2=>by rw [h] at h2;cases h2⟩;refine Jx.intro func30 rfl ntmps30 rfl (λe b=>?_);refine W ?_;refine Ci rfl (λg1=>?_) (λg1=>?_)
 ·have Ln:xR (kd (AE n) 2) 1 2=false:=by unfold kd at g1 |-;simpa using g1
  refine W ?_;exact Ev 1 rfl rfl rfl rfl rfl (no (by unfold J4;rw [Ln];rfl) _)
 have Ln:xR (kd (AE n) 2) 1 2=true:=by unfold kd at g1 |-;simp_all
 have Lg:1<=((AE n).kids.getD 2 (.mk 0 0 false [] [])).kids.length/\((AE n).kids.getD 2 (.mk 0 0 false [] [])).kids.length<=2:=by
  have h:=Ln;simp only [xR,xB,a_] at h;exact⟨Jv.1 h.1.2,Jv.1 h.2⟩
 refine W ?_;have hl3:((AE n).kids.drop 3).length=(AE n).kids.length-3:=aM ..;refine Jf (γ:=Unit) (λ_=>[(0,.own 0 0),(1,.d (.AX (AE n).kids)),(7,.d (.b (Bm (((AE n).kids.getD 2 (.mk 0 0 false [] [])).kids.getD 0 (.mk 0 0 false [] []))).2))]) (λ_=>[(0,.var 28 [.d (.s (BL n).type),.d (.b (CI n)),.d (.bs (BL n).content),.d A1,.d A1,.d A1]),(1,.Fo 0 b)]) (λ_=>(!CI n||(zd (kd (kd (AE n) 2) 1) 0 true&&decide (((kd (kd (AE n) 2) 1).kids.length:Int)=1)&&decide ((kd (kd (kd (AE n) 2) 1) 0).cls=0)&&decide ((kd (kd (kd (AE n) 2) 1) 0).tag=4)))=true) ?_ ?_
 ·refine Ci rfl (λg2=>?_) (λg2=>?_)
  ·have hH:CI n=true:=ae g2;have nh:(zd (kd (kd (AE n) 2) 1) 0 true&&decide (((kd (kd (AE n) 2) 1).kids.length:Int)=1)&&decide ((kd (kd (kd (AE n) 2) 1) 0).cls=0)&&decide ((kd (kd (kd (AE n) 2) 1) 0).tag=4))=false->J4 n=false:=λh=>by unfold J4;rw [hH,h];simp
   have hS2:(BL n).content=((((AE n).kids.getD 2 (.mk 0 0 false [] [])).kids.getD 1 (.mk 0 0 false [] [])).kids.getD 0 (.mk 0 0 false [] [])).bytes:=by show(if CI n then _ else _)=_;rw [hH];rfl
   have hl4:((AE n).kids.getD 2 (.mk 0 0 false [] [])).kids.length=2:=by omega
   refine W ?_;refine Bg rfl rfl (λg3=>?_) (λg3=>?_)
   ·have Ve:zd (kd (kd (AE n) 2) 1) 0 true=false:=by unfold kd;simpa using g3
    refine W ?_;exact Ev 1 rfl rfl rfl rfl rfl (no (nh (by rw [Ve];rfl)) _)
   have Ve:zd (kd (kd (AE n) 2) 1) 0 true=true:=by unfold kd;simpa using g3
   refine W ?_;refine Bg rfl rfl (λg4=>?_) (λg4=>?_)
   ·refine W ?_;exact Ev 1 rfl rfl rfl rfl rfl (no (nh (by rw [ah (show ¬ ((kd (kd (AE n) 2) 1).kids.length:Int)=1 from g4)];simp)) _)
   have g4':((((AE n).kids.getD 2 (.mk 0 0 false [] [])).kids.getD 1 (.mk 0 0 false [] [])).kids.length:Int)=1:=by first|exact g4|exact xM.1 g4
   refine W ?_;refine Bg rfl rfl (λg5=>?_) (λg5=>?_)
   ·refine W ?_;exact Ev 1 rfl rfl rfl rfl rfl (no (nh (by rw [ah (show ¬ (kd (kd (kd (AE n) 2) 1) 0).cls=0 from g5)];simp)) _)
   have g5':(kd (kd (kd (AE n) 2) 1) 0).cls=0:=by first|exact g5|exact xM.1 g5
   refine W ?_;refine Ci rfl (λg6=>?_) (λg6=>?_)
   ·refine W ?_;exact Ev 1 rfl rfl rfl rfl rfl (no (nh (by rw [ah (show ¬ (kd (kd (kd (AE n) 2) 1) 0).tag=4 from g6)];simp)) _)
   have g6':(kd (kd (kd (AE n) 2) 1) 0).tag=4:=by first|exact g6|exact xM.1 g6
   refine W ?_;rw [hS2];exact⟨(),by rw [hH,Ve,ae (show((kd (kd (AE n) 2) 1).kids.length:Int)=1 from g4'),ae g5',ae g6'];rfl,⟨⟨_,rfl,az⟩,⟨_,rfl,az⟩,⟨_,rfl,az⟩,trivial⟩,⟨_,rfl,MK.v ⟨az,az,az,az,az,az,trivial⟩⟩,⟨_,rfl,cQ⟩,trivial⟩
  ·have hH:CI n=false:=ah g2;have hS2:(BL n).content=[]:=by show(if CI n then _ else _)=_;rw [hH];rfl
   refine W ?_;rw [hS2];exact⟨(),by rw [hH];rfl,⟨⟨_,rfl,az⟩,⟨_,rfl,az⟩,⟨_,rfl,az⟩,trivial⟩,⟨_,rfl,MK.v ⟨az,az,En.zb,az,az,az,trivial⟩⟩,⟨_,rfl,cQ⟩,trivial⟩
 rintro _ hH;refine JD.seq ?_;refine JD.region ?_;refine R3 rfl rfl ?_;refine KSl ?_;refine aI (yi.Z0 3 rfl rfl rfl rfl rfl xE rfl rfl) ?_;refine R3 rfl rfl ?_;refine Al.nil ?_;refine JD.seq ?_;have zT:Nd.yP ((AE n).kids.drop 3)<=1073741823:=by have h1:=dV (AE n).kids 3;have h2:=d9 (AE n);omega
 generalize hT:(AE n).kids.drop 3=T at *;have Vc:CD n=T:=hT;have zK:(T.getD 0 (.mk 0 0 false [] [])).sz<=1073741824:=by have h1:(T.getD 0 (.mk 0 0 false [] [])).sz<=Nd.yP T+1:=jt T 0;omega
 have Lm:E9 T=true->∀ k∈(T.getD 0 (.mk 0 0 false [] [])).kids,∀ x∈Ff (F9 k),XtS x:=by rw [<- Vc];exact hC
 have Dk:(BL n).yj=if E9 T then(T.getD 0 (.mk 0 0 false [] [])).kids.map (λk=>(Bb k).1) else []:=by rw [<- Vc];rfl
 have nc:E9 T=true->(T.getD 0 (.mk 0 0 false [] [])).kids.all (λk=>(Bb k).2 == 0)=false->J4 n=false:=λh1 h2=>by
  have h3:(lk (CD n) 0).kids.all (λk=>(Bb k).2 == 0)=false:=by rw [Vc];exact h2
  unfold J4;rw [h3,Vc,h1];simp
 have hCd:E9 T=(zd (T.getD 0 (.mk 0 0 false [] [])) 0 true&&decide (0<((T.getD 0 (.mk 0 0 false [] [])).kids.length:Int))):=rfl;have h4d:Ah n=if E9 T then T.drop 1 else T:=by rw [<- Vc];rfl
 have zK1:=d9 (T.getD 0 (.mk 0 0 false [] []));have zK2:=bD (T.getD 0 (.mk 0 0 false [] [])).kids;have zK3:∀ g,((T.getD 0 (.mk 0 0 false [] [])).kids.getD g (.mk 0 0 false [] [])).sz<=1073741824:=λg=>xJ (b_ (T.getD 0 (.mk 0 0 false [] [])) g) zK;generalize hKd:E9 T=hc at *;refine Jf (γ:=Unit) (λ_=>[(0,.own 0 0),(1,.d (.AX (Ah n))),(7,.d (.b (Bm (((AE n).kids.getD 2 (.mk 0 0 false [] [])).kids.getD 0 (.mk 0 0 false [] []))).2))]) (λ_=>[(0,.var 28 [.d (.s (BL n).type),.d (.b (CI n)),.d (.bs (BL n).content),.d (.sl 11 BU.enc (BL n).yj),.d A1,.d A1]),(1,.Fo 0 b)]) (λ_=>(!E9 T||(T.getD 0 (.mk 0 0 false [] [])).kids.all (λk=>(Bb k).2 == 0))=true) ?_ ?_
 ·refine W ?_;refine Bg rfl rfl (λg7=>?_) (λg7=>?_)
  ·refine W ?_;refine Ci rfl (λg8=>?_) (λg8=>?_)
   ·have By:hc=true:=by rw [hCd,show zd (T.getD 0 (.mk 0 0 false [] [])) 0 true=true from g7,ae g8];rfl
    rw [By,xD rfl] at Dk h4d
    replace nc:=nc By
    replace Lm:=Lm By
    refine W ?_;generalize hK:T.getD 0 (.mk 0 0 false [] [])=K at *;refine Rv (kS 11 BU.enc) 0 3 55 rfl rfl rfl rfl rfl rfl ?_;refine Lp (γ:=Nat) (λg=>g<=K.kids.length/\(K.kids.take g).all (λk=>(Bb k).2 == 0)=true) (λg=>K.kids.length+1-g) (λg=>[(0,.own 0 0),(1,.d (.AX T)),(7,.d (.b (Bm (((AE n).kids.getD 2 (.mk 0 0 false [] [])).kids.getD 0 (.mk 0 0 false [] []))).2)),(105,.d (.AX K.kids)),(106,.d (.i (K.kids.length:Int))),(107,.d (.i (g:Int)))]) (λg=>[(0,.var 28 [.d (.s (BL n).type),.d (.b (CI n)),.d (.bs (BL n).content),.row 2,.d A1,.d A1]),(2,.row 55 (.sl 11 BU.enc ((K.kids.take g).map λk=>(Bb k).1))),(1,.Fo 0 b)]) 0 ⟨yQ _,rfl⟩ ⟨rfl,rfl,rfl,rfl,rfl,rfl,trivial⟩ ⟨rfl,rfl,rfl,trivial⟩ ?_;rintro g ⟨hg,zX⟩;have FH:(((K.kids.take g).map λk=>(Bb k).1)).length<=1073741824:=by rw [aq];have:=xY g K.kids;omega
    refine W ?_;refine Ci rfl (λh=>?_) (λh=>?_)
    ·have hl:g<K.kids.length:=by omega
     have yL:K.kids.getD g (.mk 0 0 false [] [])=K.kids[g]:=aU hl;have hm:(K.kids.getD g (.mk 0 0 false [] []))∈K.kids:=by rw [yL];exact ax hl
     have c3:=pT (K.kids.getD g (.mk 0 0 false [] [])) (zK3 g) (Lm _ hm);refine W ?_;refine Ci rfl (λh4=>?_) (λh4=>?_)
     ·exact m85
     have Is:((Bb (K.kids.getD g (.mk 0 0 false [] []))).2 == 0)=true:=by rw [beq_iff_eq];first|exact h4|exact xM.1 h4
     have e1:((K.kids.take (g+1)).map λk=>(Bb k).1)=((K.kids.take g).map λk=>(Bb k).1)++[(Bb (K.kids.getD g (.mk 0 0 false [] []))).1]:=by
      exact m141
     have e2:(K.kids.take (g+1)).all (λk=>(Bb k).2 == 0)=true:=by
      exact m152
     refine W ?_;refine JX.s1 [123] rfl (yi.OX (enc:=BU.enc) [(Bb (K.kids.getD g (.mk 0 0 false [] []))).1] rfl rfl rfl rfl (λ_ _=>rfl) rfl rfl rfl rfl rfl) ?_;refine Kz (kS 11 BU.enc) (l2:=[(Bb (K.kids.getD g (.mk 0 0 false [] []))).1]) rfl rfl rfl rfl rfl rfl rfl JA rfl rfl rfl ?_;refine HA rfl rfl ?_;refine bI rfl ?_;refine Kj 2 rfl rfl rfl rfl rfl ?_;refine W ?_;exact m57
    have CK:g=K.kids.length:=by omega
    subst CK;rw [xK] at zX;rw [xK];refine Pb 2 rfl ?_;refine W ?_;rw [Dk,h4d];exact⟨(),by rw [hKd,zX,Jy],⟨⟨_,rfl,az⟩,⟨_,rfl,az⟩,⟨_,rfl,az⟩,trivial⟩,⟨_,rfl,cQ⟩,⟨_,rfl,cQ⟩,trivial⟩
   ·have By:hc=false:=by rw [hCd,ah g8,yA]
    exact m53
  ·have By:hc=false:=by rw [hCd,show zd (T.getD 0 (.mk 0 0 false [] [])) 0 true=false from g7];rfl
   exact m53
 rintro _ hI;refine JD.seq ?_;have zT:Nd.yP (Ah n)<=1073741823:=by
  rw [h4d];split
  ·exact xJ (dV T 1) zT
  ·exact zT
 clear hT zK Lm Dk nc hCd h4d zK1 zK2 zK3 hC hl3;have hl5:BD n=if E8 (Ah n) then(Ah n).drop 1 else Ah n:=rfl;have Dk:(BL n).crls=if E8 (Ah n) then((Ah n).getD 0 (.mk 0 0 false [] [])).kids.map (λk=>(Eb k).1) else []:=rfl;have nc:E8 (Ah n)=true->((Ah n).getD 0 (.mk 0 0 false [] [])).kids.all (λk=>(Eb k).2 == 0)=false->J4 n=false:=λh1 h2=>by
  have h3:(lk (Ah n) 0).kids.all (λk=>(Eb k).2 == 0)=false:=h2;unfold J4;rw [h3,h1];simp
 have hCd:E8 (Ah n)=(decide (0<((Ah n).length:Int))&&zd ((Ah n).getD 0 (.mk 0 0 false [] [])) 1 true&&decide (0<(((Ah n).getD 0 (.mk 0 0 false [] [])).kids.length:Int))):=rfl;have zK:((Ah n).getD 0 (.mk 0 0 false [] [])).sz<=1073741824:=by have h1:((Ah n).getD 0 (.mk 0 0 false [] [])).sz<=Nd.yP (Ah n)+1:=jt (Ah n) 0;omega
 have Lm:E8 (Ah n)=true->∀ k∈((Ah n).getD 0 (.mk 0 0 false [] [])).kids,Vq (H8 k):=hL;have zK1:=d9 ((Ah n).getD 0 (.mk 0 0 false [] []));have zK2:=bD ((Ah n).getD 0 (.mk 0 0 false [] [])).kids;have zK3:∀ g,(((Ah n).getD 0 (.mk 0 0 false [] [])).kids.getD g (.mk 0 0 false [] [])).sz<=1073741824:=λg=>xJ (b_ ((Ah n).getD 0 (.mk 0 0 false [] [])) g) zK;have zTl:=bD (Ah n);generalize hU:Ah n=U at *;generalize hLd:E8 U=BO at *;refine Jf (γ:=Unit) (λ_=>[(0,.own 0 0),(1,.d (.AX (BD n))),(7,.d (.b (Bm (((AE n).kids.getD 2 (.mk 0 0 false [] [])).kids.getD 0 (.mk 0 0 false [] []))).2))]) (λ_=>[(0,.var 28 [.d (.s (BL n).type),.d (.b (CI n)),.d (.bs (BL n).content),.d (.sl 11 BU.enc (BL n).yj),.d (.sl 6 Cl.enc (BL n).crls),.d A1]),(1,.Fo 0 b)]) (λ_=>(!E8 U||(U.getD 0 (.mk 0 0 false [] [])).kids.all (λk=>(Eb k).2 == 0))=true) ?_ ?_
 ·refine W ?_;refine Bg rfl rfl (λg6=>?_) (λg6=>?_)
  ·refine W ?_;refine Bg rfl rfl (λg7=>?_) (λg7=>?_)
   ·refine W ?_;refine Ci rfl (λg8=>?_) (λg8=>?_)
    ·have By:BO=true:=by rw [hCd,ae g6,show zd (U.getD 0 (.mk 0 0 false [] [])) 1 true=true from g7,ae g8];rfl
     rw [By,xD rfl] at Dk hl5
     replace nc:=nc By
     replace Lm:=Lm By
     refine W ?_;generalize hK:U.getD 0 (.mk 0 0 false [] [])=K at *;refine Rv (kS 6 Cl.enc) 0 4 59 rfl rfl rfl rfl rfl rfl ?_;refine Lp (γ:=Nat) (λg=>g<=K.kids.length/\(K.kids.take g).all (λk=>(Eb k).2 == 0)=true) (λg=>K.kids.length+1-g) (λg=>[(0,.own 0 0),(1,.d (.AX U)),(7,.d (.b (Bm (((AE n).kids.getD 2 (.mk 0 0 false [] [])).kids.getD 0 (.mk 0 0 false [] []))).2)),(151,.d (.AX K.kids)),(152,.d (.i (K.kids.length:Int))),(153,.d (.i (g:Int)))]) (λg=>[(0,.var 28 [.d (.s (BL n).type),.d (.b (CI n)),.d (.bs (BL n).content),.d (.sl 11 BU.enc (BL n).yj),.row 2,.d A1]),(2,.row 59 (.sl 6 Cl.enc ((K.kids.take g).map λk=>(Eb k).1))),(1,.Fo 0 b)]) 0 ⟨yQ _,rfl⟩ ⟨rfl,rfl,rfl,rfl,rfl,rfl,trivial⟩ ⟨rfl,rfl,rfl,trivial⟩ ?_;rintro g ⟨hg,zX⟩;have FH:(((K.kids.take g).map λk=>(Eb k).1)).length<=1073741824:=by rw [aq];have:=xY g K.kids;omega
     refine W ?_;refine Ci rfl (λh=>?_) (λh=>?_)
     ·have hl:g<K.kids.length:=by omega
      have yL:K.kids.getD g (.mk 0 0 false [] [])=K.kids[g]:=aU hl;have hm:(K.kids.getD g (.mk 0 0 false [] []))∈K.kids:=by rw [yL];exact ax hl
      have c3:=oN (K.kids.getD g (.mk 0 0 false [] [])) (zK3 g) (Lm _ hm);refine W ?_;refine Ci rfl (λh4=>?_) (λh4=>?_)
      ·exact m85
      have Is:((Eb (K.kids.getD g (.mk 0 0 false [] []))).2 == 0)=true:=by rw [beq_iff_eq];first|exact h4|exact xM.1 h4
      have e1:((K.kids.take (g+1)).map λk=>(Eb k).1)=((K.kids.take g).map λk=>(Eb k).1)++[(Eb (K.kids.getD g (.mk 0 0 false [] []))).1]:=by
       exact m141
      have e2:(K.kids.take (g+1)).all (λk=>(Eb k).2 == 0)=true:=by
       exact m152
      refine W ?_;refine JX.s1 [169] rfl (yi.OX (enc:=Cl.enc) [(Eb (K.kids.getD g (.mk 0 0 false [] []))).1] rfl rfl rfl rfl (λ_ _=>rfl) rfl rfl rfl rfl rfl) ?_;refine Kz (kS 6 Cl.enc) (l2:=[(Eb (K.kids.getD g (.mk 0 0 false [] []))).1]) rfl rfl rfl rfl rfl rfl rfl JA rfl rfl rfl ?_;refine HA rfl rfl ?_;refine bI rfl ?_;refine Kj 2 rfl rfl rfl rfl rfl ?_;refine W ?_;exact m57
     have CK:g=K.kids.length:=by omega
     subst CK;rw [xK] at zX;rw [xK];refine Pb 2 rfl ?_;refine W ?_;rw [Dk,hl5];exact⟨(),by rw [hLd,zX,Jy],⟨⟨_,rfl,az⟩,⟨_,rfl,az⟩,⟨_,rfl,az⟩,trivial⟩,⟨_,rfl,cQ⟩,⟨_,rfl,cQ⟩,trivial⟩
    ·have By:BO=false:=by rw [hCd,ah g8,yA]
     exact m26
   ·have By:BO=false:=by rw [hCd,show zd (U.getD 0 (.mk 0 0 false [] [])) 1 true=false from g7,yA];rfl
    exact m26
  ·have By:BO=false:=by rw [hCd,ah g6];rfl
   exact m26
 rintro _ hJ;have zT:Nd.yP (BD n)<=1073741823:=by
  rw [hl5];split
  ·exact xJ (dV U 1) zT
  ·exact zT
 clear Lm Dk nc hCd hl5 zK zK1 zK2 zK3 hL zTl;have zK:((BD n).getD 0 (.mk 0 0 false [] [])).sz<=1073741824:=by have h1:((BD n).getD 0 (.mk 0 0 false [] [])).sz<=Nd.yP (BD n)+1:=jt (BD n) 0;omega
 have zK1:=d9 ((BD n).getD 0 (.mk 0 0 false [] []));have zK2:=bD ((BD n).getD 0 (.mk 0 0 false [] [])).kids;have zTl:=bD (BD n);have Dk:(BL n).signers=((BD n).getD 0 (.mk 0 0 false [] [])).kids.map (λk=>(C5 k).1):=rfl;have Lm:∀ k∈((BD n).getD 0 (.mk 0 0 false [] [])).kids,SgQ k:=hS;have hP:J4 n=(xR (kd (AE n) 2) 1 2&&(!CI n||(zd (kd (kd (AE n) 2) 1) 0 true&&decide (((kd (kd (AE n) 2) 1).kids.length:Int)=1)&&decide ((kd (kd (kd (AE n) 2) 1) 0).cls=0)&&decide ((kd (kd (kd (AE n) 2) 1) 0).tag=4)))
 && (Bm (kd (kd (AE n) 2) 0)).2&&(!E9 (CD n)||(lk (CD n) 0).kids.all λk=>(Bb k).2 == 0)&&(!E8 (Ah n)||(lk (Ah n) 0).kids.all λk=>(Eb k).2 == 0)
 && (decide (((BD n).length:Int)=1)&&decide (((BD n).getD 0 (.mk 0 0 false [] [])).cls=0))&&decide (((BD n).getD 0 (.mk 0 0 false [] [])).tag=17)&&((BD n).getD 0 (.mk 0 0 false [] [])).kids.all λk=>(C5 k).2):=rfl
 rw [Vc,hU,Ln,hH,show(!E9 T||(lk T 0).kids.all λk=>(Bb k).2 == 0)=true from hI,show(!E8 U||(lk U 0).kids.all λk=>(Eb k).2 == 0)=true from hJ] at hP;generalize hV:BD n=V at *;refine W ?_;refine Bg rfl rfl (λg6=>?_) (λg6=>?_)
 ·refine W ?_;exact Ev 1 rfl rfl rfl rfl rfl (no (by rw [hP,ah (show ¬ (V.length:Int)=1 from g6)];simp) _)
 have g6':(V.length:Int)=1:=by first|exact g6|exact xM.1 g6
 refine W ?_;refine Bg rfl rfl (λg7=>?_) (λg7=>?_)
 ·refine W ?_;exact Ev 1 rfl rfl rfl rfl rfl (no (by rw [hP,ah (show ¬ (V.getD 0 (.mk 0 0 false [] [])).cls=0 from g7)];simp) _)
 have g7':(V.getD 0 (.mk 0 0 false [] [])).cls=0:=by first|exact g7|exact xM.1 g7
 refine W ?_;refine Ci rfl (λg8=>?_) (λg8=>?_)
 ·refine W ?_;exact Ev 1 rfl rfl rfl rfl rfl (no (by rw [hP,ah (show ¬ (V.getD 0 (.mk 0 0 false [] [])).tag=17 from g8)];simp) _)
 have g8':(V.getD 0 (.mk 0 0 false [] [])).tag=17:=by first|exact g8|exact xM.1 g8
 refine W ?_;generalize hK:V.getD 0 (.mk 0 0 false [] [])=K at *;have nc:K.kids.all (λk=>(C5 k).2)=false->J4 n=false:=λh=>by rw [hP,h,yA]
 refine Rv (kS 7 Sg.enc) 0 5 62 rfl rfl rfl rfl rfl rfl ?_;refine Lp (γ:=Nat) (λg=>g<=K.kids.length/\(K.kids.take g).all (λk=>(C5 k).2)=true) (λg=>K.kids.length+1-g) (λg=>[(0,.own 0 0),(1,.d (.AX V)),(7,.d (.b (Bm (((AE n).kids.getD 2 (.mk 0 0 false [] [])).kids.getD 0 (.mk 0 0 false [] []))).2)),(197,.d (.AX K.kids)),(198,.d (.i (K.kids.length:Int))),(199,.d (.i (g:Int)))]) (λg=>[(0,.var 28 [.d (.s (BL n).type),.d (.b (CI n)),.d (.bs (BL n).content),.d (.sl 11 BU.enc (BL n).yj),.d (.sl 6 Cl.enc (BL n).crls),.row 2]),(2,.row 62 (.sl 7 Sg.enc ((K.kids.take g).map λk=>(C5 k).1))),(1,.Fo 0 b)]) 0 ⟨yQ _,rfl⟩ ⟨rfl,rfl,rfl,rfl,rfl,rfl,trivial⟩ ⟨rfl,rfl,rfl,trivial⟩ ?_;rintro g ⟨hg,zX⟩;have FH:(((K.kids.take g).map λk=>(C5 k).1)).length<=1073741824:=by rw [aq];have:=xY g K.kids;omega
 refine W ?_;refine Ci rfl (λh=>?_) (λh=>?_)
 ·have hl:g<K.kids.length:=by omega
  have yL:K.kids.getD g (.mk 0 0 false [] [])=K.kids[g]:=aU hl;have hm:(K.kids.getD g (.mk 0 0 false [] []))∈K.kids:=by rw [yL];exact ax hl
  have c3:=jc (K.kids.getD g (.mk 0 0 false [] [])) (Lm _ hm);refine W ?_;refine Ci rfl (λh4=>?_) (λh4=>?_)
  ·exact m85
  have Is:((C5 (K.kids.getD g (.mk 0 0 false [] []))).2)=true:=by simpa using h4
  have e1:((K.kids.take (g+1)).map λk=>(C5 k).1)=((K.kids.take g).map λk=>(C5 k).1)++[(C5 (K.kids.getD g (.mk 0 0 false [] []))).1]:=by
   exact m141
  have e2:(K.kids.take (g+1)).all (λk=>(C5 k).2)=true:=by
   exact m152
  refine W ?_;refine JX.s1 [215] rfl (yi.OX (enc:=Sg.enc) [(C5 (K.kids.getD g (.mk 0 0 false [] []))).1] rfl rfl rfl rfl (λ_ _=>rfl) rfl rfl rfl rfl rfl) ?_;refine Kz (kS 7 Sg.enc) (l2:=[(C5 (K.kids.getD g (.mk 0 0 false [] []))).1]) rfl rfl rfl rfl rfl rfl rfl JA rfl rfl rfl ?_;refine HA rfl rfl ?_;refine bI rfl ?_;refine Kj 2 rfl rfl rfl rfl rfl ?_;refine W ?_;exact m57
 have CK:g=K.kids.length:=by omega
 subst CK;rw [xK] at zX;rw [xK];refine Pb 2 rfl ?_;refine W ?_;rw [g6',g7',g8',zX] at hP;exact Ev 1 rfl rfl rfl rfl rfl ⟨by rw [hP];simp;rfl,λ_=>by rw [show D.st (BL n).enc=.st [.s (BL n).type,.b (CI n),.bs (BL n).content,.sl 11 BU.enc (BL n).yj,.sl 6 Cl.enc (BL n).crls,.sl 7 Sg.enc (BL n).signers] from rfl,Dk]⟩
instance:Cn prog 30 (type_of% @sP):=⟨@sP⟩
theorem a9m (n:Nd) (hQ:SdQ n) (hK:J4 n=true->Vl (BL n)):yq prog 11 [.nd n] (.zZ [.st (sdO n).1.enc,.b (sdO n).2]):=by
 have bad:Fm n=false->yR [.st sd0.enc,.b false]=.zZ [.st (sdO n).1.enc,.b (sdO n).2]:=λhb=>by unfold sdO;rw [hb];rfl
 have hz:=hQ.z;have k0:=b_ n 0;have k1:=b_ n 1;have k10:=b_ (n.kids.getD 1 (.mk 0 0 false [] [])) 0;have k2:=b_ ((n.kids.getD 1 (.mk 0 0 false [] [])).kids.getD 0 (.mk 0 0 false [] [])) 0;have k3:=b_ ((n.kids.getD 1 (.mk 0 0 false [] [])).kids.getD 0 (.mk 0 0 false [] [])) 1;refine an func11 U ntmps11 U (λe=>?_);refine W ?_;refine Bg U U (λg1=>?_) (λg1=>?_)
 ·have Ln:n.put.isSome=false:=by simpa using g1
  refine W ?_;exact Rt U U (bad (by unfold Fm;rw [Ln];rfl))
 have Ln:n.put.isSome=true:=by simpa using g1
 refine W ?_;refine Bg U U (λg2=>?_) (λg2=>?_)
 ·have NG:xR n 2 2=false:=by simp_all
  refine W ?_;exact Rt U U (bad (by unfold Fm;rw [NG];simp))
 have NG:xR n 2 2=true:=by simp_all
 have hl0:n.kids.length=2:=by
  have h:=NG;simp only [xR,xB,a_] at h;omega
 refine W ?_;refine Bg U U (λg3=>?_) (λg3=>?_)
 ·have Ve:zd (kd n 1) 0 true=false:=by unfold kd;simpa using g3
  refine W ?_;exact Rt U U (bad (by unfold Fm;rw [Ve];simp))
 have Ve:zd (kd n 1) 0 true=true:=by unfold kd;simpa using g3
 refine W ?_;refine Ci U (λg4=>?_) (λg4=>?_)
 ·refine W ?_;exact Rt U U (bad (by unfold Fm;rw [ah (show ¬ ((kd n 1).kids.length:Int)=1 from g4)];simp))
 have g4':((n.kids.getD 1 (.mk 0 0 false [] [])).kids.length:Int)=1:=by first|exact g4|exact xM.1 g4
 refine W ?_;refine Bg U U (λg5=>?_) (λg5=>?_)
 ·have g5':(Bm (kd n 0)).2=false:=by unfold kd;simpa using g5
  refine W ?_;exact Rt U U (bad (by unfold Fm;rw [g5'];simp))
 have g5':(Bm (kd n 0)).2=true:=by unfold kd;simpa using g5
 refine W ?_;refine Bg U U (λg6=>?_) (λg6=>?_)
 ·refine W ?_;exact Rt U U (bad (by unfold Fm;rw [ah (show ¬ (Bm (kd n 0)).1=Ad from g6)];simp))
 have g6':(Bm (n.kids.getD 0 (.mk 0 0 false [] []))).1=Ad:=by first|exact g6|exact xM.1 g6
 refine W ?_;refine Ci U (λg7=>?_) (λg7=>?_)
 ·have g7':xR (AE n) 4 6=false:=by unfold AE kd;simpa using g7
  refine W ?_;exact Rt U U (bad (by unfold Fm;rw [g7'];simp))
 have g7':xR (AE n) 4 6=true:=by unfold AE kd;simp_all
 have Lg:4<=(AE n).kids.length/\(AE n).kids.length<=6:=by
  have h:=g7';simp only [xR,xB,a_] at h;exact⟨Jv.1 h.1.2,Jv.1 h.2⟩
 have hl3:4<=((n.kids.getD 1 (.mk 0 0 false [] [])).kids.getD 0 (.mk 0 0 false [] [])).kids.length:=Lg.1;refine W ?_;refine Cp (os1:=[]) U U U U U U U (sP n hQ Lg) U ?_;rintro _ d1 ⟨rfl,h1⟩;cases hp:J4 n with
 |false =>
  refine W ?_;exact Rt U U (bad (by unfold Fm;rw [hp];simp))
 |true =>
  obtain rfl:=h1 hp
  replace hK:=hK hp
  have cR:=iE (BL n) hK;have cV:=il (BL n) hK;refine W ?_;refine Ci U (λg9=>?_) (λg9=>?_)
  ·have g9':FG (BL n)=false:=by simpa using g9
   refine W ?_;exact Rt U U (bad (by unfold Fm;rw [g9'];simp))
  have g9':FG (BL n)=true:=by simpa using g9
  refine Ka [1,2,3,6,7] U ?_;have hr5:=(gT g9').2.2.2.2;have cD:=io (BL n) hr5;have zD:=sv hr5;have cE:yq prog 33 [.bs (((n.kids.getD 1 (.mk 0 0 false [] [])).kids.getD 0 (.mk 0 0 false [] [])).kids.getD 1 (.mk 0 0 false [] [])).wr.1,.bs (Dp (CN (BL n))).1.wr.1] (.b (decide ((((n.kids.getD 1 (.mk 0 0 false [] [])).kids.getD 0 (.mk 0 0 false [] [])).kids.getD 1 (.mk 0 0 false [] [])).wr.1=(Dp (CN (BL n))).1.wr.1))):=a2J;have hO:Fm n=((kd (AE n) 0).AA&&decide ((kd (AE n) 0).tag=2)&&decide ((kd (AE n) 0).D7=Ih (BL n))&&decide ((kd (AE n) 1).wr.1=(Dp (CN (BL n))).1.wr.1)):=by
   unfold Fm;rw [Ln,NG,Ve,ae (show((kd n 1).kids.length:Int)=1 from g4'),g5',ae (show(Bm (kd n 0)).1=Ad from g6'),g7',hp,g9'];simp
  refine W ?_;refine EK 82 U (λhc p1=>?_) (λhc p1=>?_)
  ·rw [hc];refine W ?_;exact Rt U U (bad (by rw [hO,show(kd (AE n) 0).AA=false by unfold AE kd;simpa using hc];rfl))
  rw [hc];have p1':(kd (AE n) 0).AA=true:=by unfold AE kd;simpa using hc
  refine W ?_;refine EK 90 U (λhc p2=>?_) (λhc p2=>?_)
  ·rw [hc];refine W ?_;exact Rt U U (bad (by rw [hO,ah (show ¬ (kd (AE n) 0).tag=2 from p2)];simp))
  rw [hc];have p2':(kd (AE n) 0).tag=2:=by first|exact p2|exact xM.1 p2
  refine W ?_;refine EK 96 U (λhc p3=>?_) (λhc p3=>?_)
  ·rw [hc];refine W ?_;exact Rt U U (bad (by rw [hO,ah (show ¬ (kd (AE n) 0).D7=Ih (BL n) from p3)];simp))
  rw [hc];have p3':(kd (AE n) 0).D7=Ih (BL n):=by first|exact p3|exact xM.1 p3
  refine W ?_;refine Ci U (λp4=>?_) (λp4=>?_)
  ·refine W ?_;exact Rt U U (bad (by rw [hO,show decide ((kd (AE n) 1).wr.1=(Dp (CN (BL n))).1.wr.1)=false by unfold AE kd;simpa using p4];simp))
  have p4':decide ((kd (AE n) 1).wr.1=(Dp (CN (BL n))).1.wr.1)=true:=by unfold AE kd;simpa using p4
  refine W ?_;refine Rt U U ?_;have zt:Fm n=true:=by rw [hO,p1',ae p2',ae p3',p4'];rfl
  unfold sdO;rw [xD zt];rfl
theorem vU (b:yG) (hQ:SdQ (xN b).1) (hK:J4 (xN b).1=true->Vl (BL (xN b).1)):yq prog 8 [.bs b] (.zZ [.st (if(xN b).2.2=0 then sdO (xN b).1 else(sd0,false)).1.enc,.b (if(xN b).2.2=0 then sdO (xN b).1 else(sd0,false)).2]):=by
 have ho:=a9m _ hQ hK;have hr:=@uG b;refine an func8 U ntmps8 U (λe=>?_);refine W ?_;refine Ci U (λh1=>?_) (λh1=>?_)
 ·have h2:¬ (xN b).2.2=0:=by first|exact h1|(intro h;exact h1 (by rw [h]))
  rw [xC h2];exact m10
 ·have h2:(xN b).2.2=0:=by first|exact h1|exact xM.1 h1
  rw [xD h2];exact m10
abbrev dg (n:Nat):UInt8:=UInt8.ofNat (48+n)
theorem qa (n:Nat) (h:n<100):CS n 2=[dg (n / 10 % 10),dg (n % 10)]:=by
 unfold CS;rw [Hh,xD xE,Hh,xD xE,mO xE];rfl
theorem a9f (n:Nat) (h:n<10000):CS n 4=[dg (n / 10 / 10 / 10 % 10),dg (n / 10 / 10 % 10),dg (n / 10 % 10),dg (n % 10)]:=by
 unfold CS;rw [Hh,xD xE,Hh,xD xE,Hh,xD xE,Hh,xD xE,mO xE];rfl
theorem Zd {n:Nat}(h:n<10):(dg n).toNat=48+n:=by
 simp [dg];omega
theorem fP {s:LB}{i a b:Nat}(ha:a<10) (hb:b<10) (h1:s.getD i 0=dg a) (h2:s.getD (i+1) 0=dg b):yx s i=a*10+b:=by
 unfold yx xF;rw [h1,h2,Zd ha,Zd hb,xC xE];omega
theorem a5Y {y:Int}{m d a b c:Nat}(hy:0<=y) (h1:1<=m/\m<=12) (h2:1<=d/\d<=zR y m) (h3:a<24) (h4:b<60) (h5:c<60):Az y (CS m 2++CS d 2++CS a 2++CS b 2++CS c 2)=true:=by
 have hm:=cO y m;rw [qa m xE,qa d xE,qa a xE,qa b xE,qa c xE];unfold Az;have d2:∀ {n:Nat},n<100->((n / 10 % 10:Nat):Int)*10+((n % 10:Nat):Int)=n:=λ_=>by omega
 refine ae ?_;simp only [xX,xP];rw [fP (i:=0) xE xE U U,fP (i:=2) xE xE U U,fP (i:=4) xE xE U U,fP (i:=6) xE xE U U,fP (i:=8) xE xE U U,
  d2 xE,d2 xE,d2 xE,d2 xE,d2 xE]
 omega
theorem PN {t y:Int}(h0:-62167219200<=t/\t<=253402300799) (hy:0<=y) (h:A4 t<xT y):yn t<y:=by
 obtain⟨h1,h2,h3⟩:=gi t h0;refine Cg λhn=>?_;have:xT y<=xT (yn t):=by
  generalize yn t=z at *;unfold xT;split<;>split<;>omega
 omega
theorem a0r {t y:Int}(h0:-62167219200<=t/\t<=253402300799) (h:xT y<=A4 t):y<=yn t:=by
 obtain⟨h1,h2,h3⟩:=gi t h0;refine Cg λhn=>?_;have:xT (yn t+1)<=xT y:=by
  generalize yn t=z at *;unfold xT;split<;>split<;>omega
 omega
def TZ (t:Int):yG:=CS (AT t 0).toNat 2++CS (AT t 1).toNat 2++CS (AT t 2).toNat 2++CS (AT t 3).toNat 2++CS (AT t 4).toNat 2
theorem ww (t y:Int) (w:Nat):EO t y w 5=CS y.toNat w++TZ t:=by
 simp only [EO,TZ,xW]
theorem PV (t:Int) (h0:-62167219200<=t/\t<=253402300799):Az (yn t) (TZ t)=true/\(TZ t).length=10:=by
 unfold TZ;obtain⟨h1,h2,h3⟩:=gi t h0;obtain⟨d1,d2,d3,d4⟩:=S6 t h0;have d4:(yV t).2.2<=zR (yn t) (yV t).2.1:=d4;have hb:=cO (yn t) (yV t).2.1;have n0:AT t 0=(yV t).2.1:=rfl;have n1:AT t 1=(yV t).2.2:=rfl;have n2:AT t 2=(t - -62167219200) % 86400 / 3600:=rfl;have n3:AT t 3=(t - -62167219200) % 86400 / 60 % 60:=rfl;have n4:AT t 4=(t - -62167219200) % 86400 % 60:=rfl;have e:(((AT t 0).toNat:Nat):Int)=(yV t).2.1:=by omega
 refine⟨a5Y h1 xE (by rw [e];omega) xE xE xE,?_⟩;rw [qa _ xE,qa _ xE,qa _ xE,qa _ xE,qa _ xE];rfl
theorem uj {t:Int}(h:-631152000<=t/\t<=2524607999):DT (KB t 2++[90])=true/\GS (KB t 2++[90])=yn t/\((KB t 2++[90]).drop 2).take 10=TZ t:=by
 have h0:-62167219200<=t/\t<=253402300799:=by omega
 obtain⟨ht,hl⟩:=PV t h0;have hy1:1950<=yn t:=a0r h0 (by rw [show xT 1950=712223 from rfl];unfold A4;omega);have hy2:yn t<2050:=PN h0 xE (by rw [show xT 2050=748748 from rfl];unfold A4;omega);unfold KB;rw [xD U,show(2:Int).toNat=2 from rfl,ww];rw [show(yV t).1=yn t from rfl];generalize TZ t=z at *;rw [qa _ xE];have e1:GS ([dg ((yn t % 100).toNat / 10 % 10),dg ((yn t % 100).toNat % 10)]++z++[90])=yn t:=by
  unfold GS;rw [fP (i:=0) xE xE U U,xD xE];split<;>omega
 have e2:((([dg ((yn t % 100).toNat / 10 % 10),dg ((yn t % 100).toNat % 10)]++z++[90]:yG).drop 2).take 10)=z:=by
  simp [<- hl]
 refine⟨?_,e1,e2⟩;unfold DT;rw [e1,e2,ht,yO];refine ae ⟨by simp [hl],?_⟩;unfold xF;rw [show 12=([dg ((yn t % 100).toNat / 10 % 10),dg ((yn t % 100).toNat % 10)]++z:yG).length by simp [hl]];rw [aJ,C0 (aB _),DX];rfl
theorem R4 {t:Int}(h0:-62167219200<=t/\t<=253402300799):BS (KB t 4++[90])=true/\yx (KB t 4++[90]) 0*100+yx (KB t 4++[90]) 2=yn t/\((KB t 4++[90]).drop 4).take 10=TZ t/\(KB t 4++[90]).length=15:=by
 obtain⟨ht,hl⟩:=PV t h0;have hy1:0<=yn t:=(gi t h0).1;have hy2:yn t<10000:=PN h0 xE (by rw [show xT 10000=3652425 from rfl];unfold A4;omega);unfold KB;rw [xC xE,show(4:Int).toNat=4 from rfl,ww];rw [show(yV t).1=yn t from rfl];generalize TZ t=z at *;rw [a9f _ xE];generalize hn:(yn t).toNat=n at *;have e0:([dg (n / 10 / 10 / 10 % 10),dg (n / 10 / 10 % 10),dg (n / 10 % 10),dg (n % 10)]++z++[90]:yG).length=15:=by simp [hl]
 have e1:yx ([dg (n / 10 / 10 / 10 % 10),dg (n / 10 / 10 % 10),dg (n / 10 % 10),dg (n % 10)]++z++[90]) 0*100+yx ([dg (n / 10 / 10 / 10 % 10),dg (n / 10 / 10 % 10),dg (n / 10 % 10),dg (n % 10)]++z++[90]) 2=yn t:=by
  rw [fP (i:=0) xE xE U U,fP (i:=2) xE xE U rfl];omega
 have e2:((([dg (n / 10 / 10 / 10 % 10),dg (n / 10 / 10 % 10),dg (n / 10 % 10),dg (n % 10)]++z++[90]:yG).drop 4).take 10)=z:=by
  simp [<- hl]
 refine⟨?_,e1,e2,e0⟩;unfold BS;rw [e0,e1,e2,ht,yO,ae U,Bool.true_or,yO];refine ae ⟨by omega,by omega,?_⟩;unfold xF;rw [show 15-1=([dg (n / 10 / 10 / 10 % 10),dg (n / 10 / 10 % 10),dg (n / 10 % 10),dg (n % 10)]++z:yG).length by simp [hl]];rw [aJ,C0 (aB _),DX];rfl
theorem hT (t:Int) (h:Bj t=0):(AM t).put.isSome=true:=by
 unfold Bj at h;unfold AM;by_cases h1:(A_ t).isSome=true
 ·rw [xD h1];unfold A_ at h1 |-
  split at h1
  ·cases h1
  rename_i hh;rw [xC hh];exact iq yD (by rw [sd rfl];exact(uj xE).1)
 rw [xC h1] at h |-
 by_cases h2:(AP t).isSome=true
 ·rw [xD h2];unfold AP at h2 |-
  split at h2
  ·cases h2
  rename_i hh;rw [xC hh];exact iq yD (by rw [sb rfl];exact(R4 xE).1)
 rw [xC h2] at h;omega
theorem pf (y:Int) {m:Nat}(h:1<=m):zM y m=zM y (m-1)+zR y m:=by
 obtain⟨m',rfl⟩:∃ m',m=m'+1:=⟨m-1,by omega⟩;simp [zM]
theorem pg (y:Int) (j:Nat):∀ i,zM y j<=zM y (j+i)
 |0=>Int.le_refl _
 |i+1=>by
  have h1:=pg y j i;have h2:=pf y (m:=j+(i+1)) xE;have h3:=cO y ((j+(i+1):Nat):Int);rw [show j+(i+1)-1=j+i by omega] at h2;omega
theorem R2 (y:Int):∀ (k:Nat) (d:Int) (m:Nat),1<=m->(GD y k d m).1+zM y ((GD y k d m).2.toNat-1)=d+zM y (m-1)
 |0,d,m,h=>by simp [GD]
 |k+1,d,m,h=>by
  unfold GD;split
  ·have h1:=R2 y k (d-zR y m) (m+1) xE;have e:=pf y h;have h2:(GD y k (d-zR y m) ((m:Int)+1)).1+zM y ((GD y k (d-zR y m) ((m:Int)+1)).2.toNat-1)=d-zR y m+zM y (m+1-1):=h1;rw [h2,Af];omega
  ·simp
theorem Y2 (y:Int) {m:Nat}{e:Int}(he:0<=e/\e<zR y m):∀ (k j:Nat),1<=j->j+k=m->∀ f,GD y (k+f+1) (zM y (m-1)-zM y (j-1)+e) j=(e,(m:Int))
 |0,j,h1,h2,f=>by
  obtain rfl:j=m:=by omega
  rw [GD,xC xE,show zM y (j-1)-zM y (j-1)+e=e by omega]
 |k+1,j,h1,h2,f=>by
  have hm:=pg y j (m-1-j);rw [show j+(m-1-j)=m-1 by omega] at hm;have e1:=pf y h1;have ih:=Y2 y he k (j+1) xE xE f;rw [show k+1+f+1=(k+f+1)+1 by omega,GD,xD xE];rw [Af] at ih;rw [show zM y (m-1)-zM y (j-1)+e-zR y j=zM y (m-1)-zM y j+e by omega];exact ih
theorem a9g (t:Int) (h0:-62167219200<=t/\t<=253402300799):A4 t=xT (yn t)+((yV t).2.2-1)+zM (yn t) ((yV t).2.1.toNat-1):=by
 have h:=R2 (yn t) 400 (A4 t-xT (yn t)) 1 xE;have h2:(GD (yn t) 400 (A4 t-xT (yn t)) 1).1+zM (yn t) ((GD (yn t) 400 (A4 t-xT (yn t)) 1).2.toNat-1)=A4 t-xT (yn t)+zM (yn t) (1-1):=h;have h3:zM (yn t) (1-1)=0:=rfl;show A4 t=xT (yn t)+((GD (yn t) 400 (A4 t-xT (yn t)) 1).1+1-1)+zM (yn t) ((GD (yn t) 400 (A4 t-xT (yn t)) 1).2.toNat-1);omega
theorem a2S {y d a b c:Int}{m:Nat}(hy:0<=y/\y<=9999) (hm:1<=m/\m<=12) (hd:1<=d/\d<=zR y m) (ha:0<=a/\a<=23) (hb:0<=b/\b<=59) (hc:0<=c/\c<=59) {t:Int}(ht:t=-62167219200+(xT y+(d-1)+zM y (m-1))*86400+(a*3600+b*60+c)) :
 (-62167219200<=t/\t<=253402300799)/\yn t=y/\AT t 0=m/\AT t 1=d/\AT t 2=a/\AT t 3=b/\AT t 4=c:=by
 have l1:=tY y hy.1;have l2:=pf y hm.1;have l3:=pg y m (12-m);rw [show m+(12-m)=12 by omega] at l3;have l4:=(ph y (m-1)).1;have lo:=eC y hy.1;have hi:=mZ (show 0<=y+1 by omega) (show y+1<=10000 by omega);rw [show xT 10000=3652425 from rfl] at hi;have hD:A4 t=xT y+(d-1)+zM y (m-1):=by unfold A4;omega
 have h0:-62167219200<=t/\t<=253402300799:=by omega
 have hY:yn t=y:=PO h0 hy.1 xE xE;have hM:=Y2 y (m:=m) (e:=d-1) xE (m-1) 1 xE xE (400-m);rw [show m-1+(400-m)+1=400 by omega] at hM;have hM2:GD (yn t) 400 (A4 t-xT (yn t)) 1=(d-1,(m:Int)):=by
  rw [hY,hD,show xT y+(d-1)+zM y (m-1)-xT y=zM y (m-1)-zM y (1-1)+(d-1) by rw [show zM y (1-1)=0 from rfl];omega];exact hM
 refine⟨h0,hY,?_,?_,?_,?_,?_⟩
 ·show(GD (yn t) 400 (A4 t-xT (yn t)) 1).2=m;rw [hM2]
 ·show(GD (yn t) 400 (A4 t-xT (yn t)) 1).1+1=d;rw [hM2];show d-1+1=d;omega
 ·show(t - -62167219200) % 86400 / 3600=a;omega
 ·show(t - -62167219200) % 86400 / 60 % 60=b;omega
 ·show(t - -62167219200) % 86400 % 60=c;omega
theorem gM {s:yG}{i:Nat}(h:0<=yx s i):[s.getD i 0,s.getD (i+1) 0]=CS (yx s i).toNat 2:=by
 have hb:=cM s i;rw [qa _ xE];unfold yx at h |-
 split at h
 ·omega
 ·rename_i hc;rw [xC hc];unfold xF at *;generalize s.getD i 0=a at *;generalize s.getD (i+1) 0=b at *;rw [show(((a.toNat:Int)-48)*10+((b.toNat:Int)-48)).toNat / 10 % 10=a.toNat-48 by omega,show(((a.toNat:Int)-48)*10+((b.toNat:Int)-48)).toNat % 10=b.toNat-48 by omega];unfold dg;rw [show 48+(a.toNat-48)=a.toNat by omega,show 48+(b.toNat-48)=b.toNat by omega,Bn,Bn]
theorem rf {y:Int}{z:yG}(hl:z.length=10) (hy:y<=9999) (h:Az y z=true):0<=y/\(-62167219200<=FR y z/\FR y z<=253402300799)/\yn (FR y z)=y/\TZ (FR y z)=z:=by
 unfold Az at h;obtain⟨h0,h1,h2,h3,h4,h5,h6,h7,h8,h9,K2⟩:=xV h;have e:(((yx z 0).toNat:Nat):Int)=yx z 0:=by omega
 obtain⟨k0,k1,k2,k3,k4,k5,k6⟩:=a2S (m:=(yx z 0).toNat) ⟨h0,hy⟩ xE ⟨h3,by rw [e];exact h4⟩ ⟨h5,h6⟩ ⟨h7,h8⟩ ⟨h9,K2⟩ (t:=FR y z) U;refine⟨h0,k0,k1,?_⟩;unfold TZ;rw [k2,k3,k4,k5,k6,e,<- gM xE,<- gM xE,<- gM xE,<- gM xE,<- gM xE]
 match z,hl with
 |[c0,c1,c2,c3,c4,c5,c6,c7,c8,c9],_=>rfl
theorem vi (t:Int) (h0:-62167219200<=t/\t<=253402300799):FR (yn t) (TZ t)=t:=by
 obtain⟨h1,h2,h3⟩:=gi t h0;obtain⟨d1,d2,d3,d4⟩:=S6 t h0;have d4:(yV t).2.2<=zR (yn t) (yV t).2.1:=d4;have hb:=cO (yn t) (yV t).2.1;have n0:AT t 0=(yV t).2.1:=rfl;have n1:AT t 1=(yV t).2.2:=rfl;have n2:AT t 2=(t - -62167219200) % 86400 / 3600:=rfl;have n3:AT t 3=(t - -62167219200) % 86400 / 60 % 60:=rfl;have n4:AT t 4=(t - -62167219200) % 86400 % 60:=rfl;have hd:=a9g t h0;unfold TZ FR;rw [qa _ xE,qa _ xE,qa _ xE,qa _ xE,qa _ xE];simp only [xX,xP];rw [fP (i:=0) xE xE U U,fP (i:=2) xE xE U U,fP (i:=4) xE xE U U,fP (i:=6) xE xE U U,fP (i:=8) xE xE U rfl];rw [show((((AT t 0).toNat / 10 % 10:Nat):Int)*10+(((AT t 0).toNat % 10:Nat):Int))=(yV t).2.1 by omega];unfold A4 at hd;omega
theorem qi {r:yG}{k:Nat}{x:UInt8}(hl:r.length=k+1) (hx:r.getD k 0=x):r.take k++[x]=r:=by
 rw [<- hx,aU (z:=0) (show k<r.length by omega),<- ai xE];exact aD xE
theorem b1s {s:yG}(hl:s.length=13) (h:s.getD 12 0=90):[s.getD 0 0,s.getD (0+1) 0]++(s.drop 2).take 10++[90]=s:=by
 match s,hl,h with
 |c0::c1::r,hl,h =>
  have:=qi (r:=r) (k:=10) (by simpa using hl) h;exact congrArg (λz=>c0::c1::z) this
 |[],hl,_=>simp at hl
 |[_],hl,_=>simp at hl
theorem b1r {s:yG}(hl:s.length=15) (h:s.getD 14 0=90):[s.getD 0 0,s.getD (0+1) 0,s.getD 2 0,s.getD (2+1) 0]++(s.drop 4).take 10++[90]=s:=by
 match s,hl,h with
 |c0::c1::c2::c3::r,hl,h =>
  have:=qi (r:=r) (k:=10) (by simpa using hl) h;exact congrArg (λz=>c0::c1::c2::c3::z) this
 |[],hl,_=>simp at hl
 |[_],hl,_=>simp at hl
 |[_,_],hl,_=>simp at hl
 |[_,_,_],hl,_=>simp at hl
theorem b90 {c:UInt8}(h:c.toNat=90):c=90:=zh.1 h
theorem sq {s:yG}(h:DT s=true):(A_ (N3 s))=some s:=by
 have hT:N3 s=FR (GS s) ((s.drop 2).take 10):=by unfold N3;rw [xD h]
 unfold DT at h;rw [xB,a_] at h;obtain⟨⟨h1,h2⟩,h3⟩:=h;have hb:=cM s 0;have hY:GS s<=2049/\(0<=GS s->0<=yx s 0/\1950<=GS s/\GS s % 100=yx s 0):=by
  unfold GS;(repeat' split)<;>omega
 obtain⟨q0,q1,q2,q3⟩:=rf (by simp [h1]) xE h3;obtain⟨y1,y2,y3⟩:=hY.2 q0;have hr:=(na q1).1 (by rw [q2];omega);rw [<- hT] at q1 q2 q3 hr;unfold A_;rw [xC xE];unfold KB;rw [xD U,show(2:Int).toNat=2 from rfl,ww,show(yV (N3 s)).1=yn (N3 s) from rfl,q2,y3,q3,<- gM y1];exact congrArg some (b1s h1 (b90 h2))
theorem XX {s:yG}(h:BY s 6=true) (h0:Er s 6=0):∀ j i,i+j=6->Er s i=0
 |0,i,e=>by
  obtain rfl:i=6:=by omega
  exact h0
 |j+1,i,e=>by
  have h1:=XX h h0 j (i+1) xE;have h2:=(QZ s i (lK i (6-i) (by rw [show i+(6-i)=6 by omega];exact h))).1;have h3:BY s (i+1)=true:=lK (i+1) (5-i) (by rw [show i+1+(5-i)=6 by omega];exact h);simp only [BY,xB] at h3;simp only [Er] at h1;split at h1
  ·rename_i hl;rw [xD hl] at h3;have:=xV h3.2;omega
  ·omega
theorem x6 {s:yG}(h:BS s=true) (h0:N7 s=0):(-62167219200<=ON s/\ON s<=253402300799)/\KB (ON s) 4++[90]=s:=by
 have hT:ON s=FR (yx s 0*100+yx s 2) ((s.drop 4).take 10):=by unfold ON;rw [xD h]
 unfold BS at h;simp only [xB,yu,a_] at h;obtain⟨⟨h1,h2,h3⟩,h4,h5⟩:=h;have hl:s.length=15:=by
  rcases h4 with h4|⟨⟨k1,k2,k3⟩,k4⟩
  ·exact h4
  refine Cg λhn=>?_;unfold N7 at h0;rw [xC hn] at h0;have z1:=XX k4 h0 (6-(s.length-17)) (s.length-17) xE;have z2:=XX k4 h0 (6-(s.length-16)) (s.length-16) xE;rw [show s.length-16=(s.length-17)+1 by omega,Er,z1,xD xE,show 15+(s.length-17)=s.length-2 by omega] at z2;omega
 have hb:=cM s 0;have Ku:=cM s 2;obtain⟨q0,q1,q2,q3⟩:=rf (by simp [hl]) xE h5;rw [<- hT] at q1 q2 q3;refine⟨q1,?_⟩;unfold KB;rw [xC xE,show(4:Int).toNat=4 from rfl,ww,show(yV (ON s)).1=yn (ON s) from rfl,q2,q3];have e0:=gM (s:=s) (i:=0) xE;have e2:=gM (s:=s) (i:=2) xE;rw [qa _ xE] at e0 e2;rw [a9f _ xE,show(yx s 0*100+yx s 2).toNat / 10 / 10 / 10 % 10=(yx s 0).toNat / 10 % 10 by omega,show(yx s 0*100+yx s 2).toNat / 10 / 10 % 10=(yx s 0).toNat % 10 by omega,show(yx s 0*100+yx s 2).toNat / 10 % 10=(yx s 2).toNat / 10 % 10 by omega,show(yx s 0*100+yx s 2).toNat % 10=(yx s 2).toNat % 10 by omega];simp only [List.cons.injEq,and_true] at e0 e2;rw [<- e0.1,<- e0.2,<- e2.1,<- e2.2];rw [hl] at h3;exact b1r hl (b90 h3)
theorem mM {n:Nd}{t:Int}(h:Dq n t=true) (hm:B6 0 t true=false):n=.mk 0 t false n.bytes []:=by
 obtain⟨h1,h2,_⟩:=eO h hm;simp only [Dq,xB,a_] at h;obtain⟨c,tt,k,b,l⟩:=n;simp only [Nd.cls,Nd.tag,Nd.cons,Nd.kids,Nd.bytes] at *;obtain⟨⟨rfl,rfl⟩,_⟩:=h;subst h1 h2;rfl
theorem fQ {n:Nd}(h:(zC n).2=true):Bj (zC n).1=0/\AM (zC n).1=n:=by
 unfold zC at h |-
 split at h
 ·rename_i h1;rw [xD h1];simp only at h |-
  have e:=sq h;unfold Bj AM;rw [e,xD (by rfl),xD (by rfl)];exact⟨U,(mM h1 yD).symm⟩
 ·rename_i h1;rw [xC h1];split at h
  ·rename_i h2;rw [xD h2];simp only [xB,a_,yN] at h2;obtain⟨⟨⟨h3,h4⟩,h5⟩,h6⟩:=h2;obtain⟨q1,q2⟩:=x6 h4 h5;have e:AP (ON n.bytes)=some n.bytes:=by unfold AP;rw [xC xE,q2]
   simp only;unfold Bj AM;rw [h6,e,xC yD,xD (by rfl),xC yD,xD (by rfl)];exact⟨U,(mM h3 yD).symm⟩
  ·cases h
theorem gO {t:Int}(h:Bj t=0):zC (AM t)=(t,true):=by
 have hp:=hT t h;unfold Bj at h;unfold AM at hp |-
 by_cases h1:(A_ t).isSome=true
 ·rw [xD h1] at hp |-
  have hb:Dq (.mk 0 23 false ((A_ t).getD []) []) 23=true:=by unfold Dq;rw [hp];rfl
  unfold zC;rw [xD hb];show(N3 ((A_ t).getD []),DT ((A_ t).getD []))=(t,true);unfold A_ at h1 |-
  split at h1
  ·cases h1
  rename_i hh;rw [xC hh,zw];obtain⟨o1,o2,o3⟩:=uj (t:=t) xE;unfold N3;rw [o1,xD U,o2,o3,vi t xE]
 rw [xC h1] at h hp |-
 by_cases h2:(AP t).isSome=true
 ·rw [xD h2] at hp |-
  have hs:(A_ t).isSome=false:=by cases hh:(A_ t).isSome<;>simp_all
  have hb:Dq (.mk 0 24 false ((AP t).getD []) []) 24=true:=by unfold Dq;rw [hp];rfl
  have Pf:Dq (.mk 0 24 false ((AP t).getD []) []) 23=false:=by unfold Dq;rw [show decide ((Nd.mk 0 24 false ((AP t).getD []) []).tag=23)=false from rfl];simp
  unfold zC;rw [hb,Pf,xC yD];show(if(true&&BS ((AP t).getD [])&&decide (N7 ((AP t).getD [])=0)&&!(A_ (ON ((AP t).getD []))).isSome)=true then(ON ((AP t).getD []),true) else(0,false))=(t,true);unfold AP at h2 |-
  split at h2
  ·cases h2
  rename_i hh;rw [xC hh,zw];obtain⟨o1,o2,o3,o4⟩:=R4 (t:=t) xE;have e:ON (KB t 4++[90])=t:=by unfold ON;rw [xD o1,o2,o3,vi t xE]
  have em:N7 (KB t 4++[90])=0:=by unfold N7;rw [xD o4]
  rw [o1,e,em,hs];rfl
 rw [xC h2] at h;omega
def Ej (m v:yG):Bool:=decide (m=v)&&decide (0<(v.length:Int))
def MP:Nd:=.mk 0 1 false [255] []
def a2q (p:Int):Nd:=.mk 0 2 false (B2 p) []
def Kg (ca:Bool) (p:Int):LN:=if ca then MP::(if 0<=p/\p<=255 then [a2q p] else []) else []
def I4 (ca:Bool) (p:Int):Nd:=.mk 0 16 true [] (Kg ca p)
def Di (n:Nd):Int:=if(kd n 1).AA=true/\0<=(kd n 1).D7/\(kd n 1).D7<=255 then(kd n 1).D7 else -1
def UG (n:Int) (i:Nat):Bool:=decide (n / 2 ^ i % 2≠0)
def Dx (n:Int):Nat->yG×Nat
 |0=>([],0)
 |i+1=>let b:=if i % 8=0 then(Dx n i).1++[0] else(Dx n i).1
  if UG n i then(b.set (i / 8) (b.getD (i / 8) 0+UInt8.ofNat (128 / 2 ^ (i % 8))),i+1) else(b,(Dx n i).2)
def Ks (n:Int):yG:=UInt8.ofNat (8*(((Dx n 9).2+7) / 8)-(Dx n 9).2)::(Dx n 9).1.take (((Dx n 9).2+7) / 8)
def qB (b:yG) (i:Nat):Nat:=if 1+i / 8<b.length then(b.getD (1+i / 8) 0).toNat / 2 ^ (7-i % 8) % 2 else 0
def Kr (b:yG):Nat->Nat
 |0=>0
 |i+1=>Kr b i+2 ^ i*qB b i
def VP (n:Nd):Nd:=.mk 0 3 false (Ks (Kr n.bytes 9)) []
def a4A (n:Nd):yG:=if((Ks (Kr n.bytes 9)).length:Int)=1 then [] else(VP n).put.getD []
def Eo (n:Nd):List yG:=(n.kids.take 40).map λk=>(AK k.bytes).getD []
def H2 (l:List yG):Nd:=.mk 0 16 true [] (l.map Ay)
def Ek (l:List yG):Bool:=l.all (λs=>(Ai s).isSome)&&decide ((l.length:Int)<=32)&&decide (0<(l.length:Int))&&decide ((((H2 l).put.getD []).length:Int)<=2000)
def Tc (b:yG):Nd:=.mk 0 4 false b []
def EP (b:yG):Bool:=decide (0<(b.length:Int))&&decide ((b.length:Int)<=64)
def E3 (x:Xt):Bool :=
 if x.zJ=Cj then Ej ((I4 (decide (0<((xN x.val).1.kids.length:Int))) (Di (xN x.val).1)).put.getD []) x.val
 else if x.zJ=DA then Ej (a4A (xN x.val).1) x.val
 else if x.zJ=Ha then Ek (Eo (xN x.val).1)&&Ej ((H2 (Eo (xN x.val).1)).put.getD []) x.val
 else if x.zJ=M3 then EP (xN x.val).1.bytes&&Ej ((Tc (xN x.val).1.bytes).put.getD []) x.val else true
theorem a5o {m:Nd}{v:yG}(h:m.put=some v):v≠[]:=by
 obtain⟨c,t,k,b,ks⟩:=m;simp only [Nd.put] at h;split at h
 ·obtain⟨w,_,rfl⟩:=zl.1 h;have:=(i_ c t k w.length).1;intro e;have e:=congrArg List.length e;simp only [aF,ay] at e;omega
 ·cases h
theorem qJ {v:yG}(h:(xN v).2.2=0):(xN v).1.put=some v:=by
 have h1:=wO h;have h2:=lY (n:=(xN v).1) (by rw [h1]);rw [h1] at h2;exact h2
theorem jg {m:Nd}{v:yG}(hr:m.rk<=32) (hv:v.length<=16777216):Ej (m.put.getD []) v=true<->(xN v).2.2=0/\(xN v).1=m:=by
 unfold Ej;rw [xB,a_,a_];constructor
 ·rintro⟨h1,h2⟩;have hp:m.put=some v:=by
   cases hm:m.put with
   |none=>rw [hm] at h1;simp at h1;subst h1;simp at h2
   |some w=>rw [hm] at h1;simp at h1;rw [h1]
  have hw:m.wr=(v,0):=by
   unfold Nd.wr;rw [hp];dsimp only;rw [xC xE,xC xE]
  have:=gu (x:=m) (by rw [hw]);rw [hw] at this;dsimp only at this;rw [this];exact⟨U,U⟩
 ·rintro⟨h1,h2⟩;have hp:=qJ h1;rw [h2] at hp;have hn:=a5o hp;refine⟨by rw [hp];rfl,?_⟩;have:=As.2 hn;omega
theorem sB {c t:Int}{b:yG}:(Nd.mk c t false b []).rk<=1:=by simp [Nd.rk,Nd.CO]
theorem dB {n:Nd}{l m:Int}(h:xR n l m=true) (hp:n.put.isSome=true):n=.mk 0 16 true [] n.kids/\l<=n.kids.length/\(n.kids.length:Int)<=m:=by
 simp only [xR,xB,a_] at h;obtain⟨⟨⟨⟨c1,c2⟩,c3⟩,c4⟩,c5⟩:=h;have hb:=(dn hp).1 c3;refine⟨?_,c4,c5⟩;exact m166
theorem mL {n:Nd}{t:Int}(h:Dq n t=true) (hm:B6 0 t true=false):n=.mk 0 t false n.bytes []/\AJ t n.bytes=true:=by
 have h1:=eO h hm;simp only [Dq,xB,a_] at h;obtain⟨⟨c1,c2⟩,_⟩:=h;obtain⟨c,t',k,b,ks⟩:=n;simp only [Fb,FQ,HS,HD,Fs] at *;obtain⟨e1,e2,e3⟩:=h1;subst c1 c2 e1 e2;exact⟨U,e3⟩
theorem a2k {n:Nd}{i:Nat}(h:n.kids.length<=i):kd n i=DU:=by
 unfold kd;rw [aJ,bu h];rfl
theorem rX {n:Nd}(hp:n.put.isSome=true):Hz n=true<->n=I4 (decide (0<(n.kids.length:Int))) (Di n):=by
 constructor
 ·intro h;unfold Hz at h;simp only [xB,yu,yN,xL] at h;obtain⟨⟨h1,h2⟩,h3⟩:=h;obtain⟨e,l0,l2⟩:=dB h1 hp;have ks:n.kids=Kg (decide (0<(n.kids.length:Int))) (Di n):=by
   unfold Kg;by_cases hk:0<(n.kids.length:Int)
   ·rw [xD (ae hk)];have hb:Ix n=true:=h2.resolve_left λq=>q hk;unfold Ix at hb;rw [xB,a_] at hb;obtain⟨H3,Ku⟩:=hb;obtain⟨q1,q2⟩:=mL H3 yD;have ql:=wb q2;have q3:kd n 0=MP:=by
     rw [q1];unfold MP
     match RG:(kd n 0).bytes,ql with
     |[b],_ =>
      rw [RG] at Ku;have:b=255:=by
       apply zh.1;simp at Ku;exact_mod_cast Ku
      rw [this]
    by_cases h2l:(n.kids.length:Int)=2
    ·have hI:Iy n=true:=h3.resolve_left λq=>q h2l;unfold Iy at hI;simp only [xB,a_] at hI;obtain⟨⟨⟨i1,i2⟩,i3⟩,i4⟩:=hI;have hpt:Di n=(kd n 1).D7:=by unfold Di;rw [xD ⟨i1,i3,i4⟩]
     rw [hpt,xD ⟨i3,i4⟩];have e1:=ju i1 i2;unfold kd at q3 e1
     match hks:n.kids,h2l with
     |[a,b],_ =>
      rw [hks] at q3 e1;simp at q3 e1;rw [q3];unfold kd;rw [hks];simp only [BC,Av];rw [<- show b=a2q b.D7 from e1]
    ·have P6:n.kids.length=1:=by omega
     have hpt:Di n=-1:=by unfold Di;rw [a2k xE,xC yD]
     rw [hpt,xC xE];unfold kd at q3
     match hks:n.kids,P6 with
     |[a],_=>rw [hks] at q3;simp at q3;rw [q3]
   ·rw [xC (by simpa using hk)];exact AQ.1 xE
  unfold I4;rw [<- ks];exact e
 ·intro h;generalize hc:decide (0<(n.kids.length:Int))=ca at h;have hk:n.kids=Kg ca (Di n):=by
   have:=congrArg Nd.kids h;exact this
  have a6p:n.cls=0/\n.tag=16/\n.cons=true:=by rw [h];exact⟨U,U,U⟩
  have hlen:n.kids.length<=2:=by rw [hk];unfold Kg;(repeat' split)<;>simp
  unfold Hz;have hs:xR n 0 2=true:=by
   unfold xR;rw [a6p.1,a6p.2.1,a6p.2.2];simp;omega
  rw [hs,hc];cases ca with
  |false =>
   have:n.kids.length=0:=by rw [hk];rfl
   simp [this]
  |true =>
   have k0:kd n 0=MP:=by unfold kd;rw [hk];rfl
   have hb:Ix n=true:=by unfold Ix;rw [k0];decide
   rw [hb];by_cases Me:0<=Di n/\Di n<=255
   ·have hI:Iy n=true:=by
     unfold Di at Me;split at Me
     ·rename_i hq;unfold Iy;have k1:kd n 1=a2q (Di n):=by
       have hp3:0<=Di n/\Di n<=255:=by unfold Di;rw [xD hq];exact⟨hq.2.1,hq.2.2⟩
       unfold kd;rw [hk];unfold Kg;rw [xD U,xD hp3];rfl
      have kt:(kd n 1).tag=2:=by rw [k1];rfl
      rw [hq.1,kt,ae hq.2.1,ae hq.2.2];rfl
     ·omega
    rw [hI];simp
   ·have:n.kids.length=1:=by rw [hk];unfold Kg;rw [xD U,xC Me];rfl
    simp [this]
theorem a4z:∀ u:Fin 8,∀ b:Fin 256,DM [UInt8.ofNat u.1,UInt8.ofNat b.1]=true->bits .and .u8 ((b.1:Int) / 2 ^ u.1) 1≠0->Ks (Kr [UInt8.ofNat u.1,UInt8.ofNat b.1] 9)=[UInt8.ofNat u.1,UInt8.ofNat b.1]:=by decide +kernel
theorem a4y:∀ b:Fin 256,Ks (Kr [7,UInt8.ofNat b.1,128] 9)=[7,UInt8.ofNat b.1,128]:=by decide +kernel
theorem a4x:∀ n:Fin 512,(Ks n.1).length=1\/(DM (Ks n.1)=true/\2<=(Ks n.1).length/\(Ks n.1).length<=3/\bits .and .u8 ((((Ks n.1).getD ((Ks n.1).length-1) 0).toNat:Int) / 2 ^ ((Ks n.1).getD 0 0).toNat) 1≠0/\¬ ((Ks n.1).length=3/\((Ks n.1).getD 0 0).toNat<7)):=by decide +kernel
section
variable {P:Program} [Tb P] {F:Fd}{n:y_}{x:Nat->y_}{a:LO}{o:LQ}{ops:Array Oper}{rest:LR}{d d2 k e T T2:Nat}{ty ty2:TypeId}{pos a8f:String}{af af2:Array Edge}{xo yo zo:Operand}{l:LB}{i q:Int}{kk:IntKind}
theorem Rwl (m:Nat) (hx:z' a xo=some (.row k)) (hk:BH o k=some (.row e (.bs l))) (hy:z' a yo=some (.d (.v (.int kk i)))) (hi:i=(m:Int)) (hm:m<l.length) (hT:Ig P T=some (e,1)) (hT2:AF P T2=some none) (hd:Nat.blt d F.m=true) (Lh:Nat.blt d2 F.m=true)
 (c:Al P F ops n x rest ((d2,.d (.v (.int .u8 ((l.getD m 0).toNat:Int))))::(d,.any)::a) o):Al P F ops n x (⟨some d,.indexAddr T xo yo,ty,pos,af,none⟩::⟨some d2,.load T2 (.tmp d),ty2,a8f,af2,none⟩::rest) a o:=.mk λρ h S L cz=>by
 obtain⟨v,h1,h2⟩:=bv cz hx;cases h2;obtain⟨y,L',hD,⟨xs,sz,rfl,hR,hn⟩,hr⟩:=cz.o.get hk;obtain⟨rfl,hlen,hc⟩:=hR;have KR:=hc.u8;refine JL.WJ hD.mem xE (λg hg=>?_);rw [hg] at h1 hD;refine aA (xG.Fw hT h1 (bR cz hy) hi xE) hd ?_;have c1:=cF (u:=.any) (v:=.pointer (some ⟨g,m,none⟩)) cz trivial d;refine aA (v:=.int .u8 ((l.getD m 0).toNat:Int)) (xG.Qj (g:=g) (i:=m) hT2 (by simp [ev,look]) hD.mem (by rw [KR];simp [GO,hm])) Lh ?_;exact c.k ρ h _ L (cF c1 (jC.2 U) d2)
theorem Rws (m:Nat) (hx:z' a xo=some (.row k)) (hk:BH o k=some (.row e (.bs l))) (hy:z' a yo=some (.d (.v (.int kk i)))) (hz:z' a zo=some (.d (.v (.int .u8 q)))) (hzn:zo≠.tmp d) (hi:i=(m:Int)) (hm:m<l.length) (hq:0<=q/\q<=255) (hT:Ig P T=some (e,1)) (hT2:AF P T2=some none) (hd:Nat.blt d F.m=true)
 (c:Al P F ops n x rest ((d,.any)::a) ((k,.row e (.bs (l.set m (UInt8.ofNat q.toNat))))::D9 o k)):Al P F ops n x (⟨some d,.indexAddr T xo yo,ty,pos,af,none⟩::⟨none,.store T2 (.tmp d) zo,ty2,a8f,af2,none⟩::rest) a o:=.mk λρ h S L cz=>by
 obtain⟨v,h1,h2⟩:=bv cz hx;cases h2;obtain⟨y,L',hD,⟨xs,sz,rfl,hR,hn⟩,hr⟩:=cz.o.get hk;obtain⟨rfl,hlen,hc⟩:=hR;have KR:=hc.u8;refine JL.WJ hD.mem xE (λg hg=>?_);rw [hg] at h1 hD;refine aA (xG.Fw hT h1 (bR cz hy) hi xE) hd ?_;have c1:=cF (u:=.any) (v:=.pointer (some ⟨g,m,none⟩)) cz trivial d;have hz1:=bR cz hz;have V3:ev ((d,.pointer (some ⟨g,m,none⟩))::S) zo=some (.int .u8 q):=by
  cases zo with
  |tmp t =>
   have D5:Nat.beq d t=false:=by
    cases hb:Nat.beq d t with
    |false=>rfl
    |true=>exact absurd (by rw [am hb]) hzn
   simpa [ev,look,D5] using hz1
  |_=>exact hz1
 refine JL.HH (g:=g) (i:=m) hT2 (by simp [ev,look]) V3 U hD (by rw [KR,ik];omega) ?_;have e1:xs.set m (.int .u8 q)=GO (l.set m (UInt8.ofNat q.toNat)):=by
  rw [KR,<- od];congr 2;simp only [xZ];omega
 rw [e1];exact c.k ρ h _ _ ⟨c1.t,c1.s,_,L',U,⟨_,1,by rw [hg],⟨U,by rw [Gq];exact hlen,cJ⟩,hn⟩,hr⟩
end
theorem OH (n i:Int) (h0:0<=n) (h1:0<=i) (h2:i<=60):yq prog 351 [.i n,.i i] (.b (UG n i.toNat)):=by
 have hp:(0:Int)<2 ^ i.toNat:=G' yD;have hq:0<=n / 2 ^ i.toNat:=Km h0 xE;unfold UG;refine an func351 U ntmps351 U (λe=>?_);refine W ?_;refine aI (yi.a4S U U ⟨h1,show _<=(64:Int) by omega⟩ U U) ?_;exact m10
instance:Cn prog 351 (type_of% @OH):=⟨@OH⟩
theorem jh (n:Int):∀ g,(Dx n g).1.length=(g+7) / 8/\(Dx n g).2<=g
 |0=>⟨U,aB _⟩
 |g+1=>by
  have ih:=jh n g;unfold Dx;dsimp only;split<;>split<;>simp only [Gq,aF,aw,ay]<;>omega
def VS (n:Int) (g:Nat):yG:=if g % 8=0 then(Dx n g).1++[0] else(Dx n g).1
theorem a0D (n:Int) (g:Nat):(VS n g).length=g / 8+1:=by
 have ih:=jh n g;unfold VS;split<;>(try simp only [aF,aw,ay])<;>omega
theorem a4C {n:Int}{g:Nat}(h:UG n g=true):Dx n (g+1)=((VS n g).set (g / 8) ((VS n g).getD (g / 8) 0+UInt8.ofNat (128 / 2 ^ (g % 8))),g+1):=by
 conv=>lhs;unfold Dx
 dsimp only;rw [xD h];rfl
theorem a4D {n:Int}{g:Nat}(h:UG n g=false):Dx n (g+1)=(VS n g,(Dx n g).2):=by
 conv=>lhs;unfold Dx
 dsimp only;rw [xC (by rw [h];simp)];rfl
theorem np (x:Xt) (h1:x.zJ.length<=1000000) (h2:x.val.length<=1000000):yq prog 198 [.st (Xt.enc x)] (.zZ [.nd (C_ x),.i (EN x)]):=by
 have:=dD x.zJ;have c0:=mc (s:=x.zJ) h1;unfold C_ EN;refine an func198 U ntmps198 U (λe=>?_);refine W ?_;refine Bg U U (λg1=>?_) (λg1=>?_)
 ·refine W ?_;exact Rt U U (by simp_all [yR,B5])
 refine W ?_;refine Ci U (λg2=>?_) (λg2=>?_)
 ·refine W ?_;exact Rt U U (by simp [yR,B5];omega)
 have hb:((Ai x.zJ).isSome&&decide (x.val.length<=2000))=true:=by
  rw [ae xE,yO];simpa using g1
 rw [xD hb,xD hb];refine W ?_;refine Ci U (λg3=>?_) (λg3=>?_)
 ·rw [xD g3];refine W ?_;refine Pl 3 U ?_;refine W ?_;exact Rt U U U
 ·rw [g3];exact m10
theorem gV (s:yG) (c:Bool) (m:Nd) (hz:m.sz<=10000000):yq prog 329 [.s s,.b c,.nd m] (.st (Xt.enc ⟨s,c,m.put.getD []⟩)):=by
 exact an func329 U ntmps329 U (λe=>Z)
instance:Cn prog 329 (type_of% @gV):=⟨@gV⟩
theorem uO (ca:Bool) (p:Int) (h0:-10<=p) (h1:p<=1000):yq prog 281 [.b ca,.i p] (.st (Xt.enc ⟨Cj,true,(I4 ca p).put.getD []⟩)):=by
 have c0:=mg p xE xE;have c1:=(cK p xE xE).2.2.1;refine an func281 U ntmps281 U (λe=>?_);refine W ?_;refine Ci U (λg1=>?_) (λg1=>?_)
 ·subst g1;refine W ?_;refine Pl 1 U ?_;refine W ?_;refine Ap0 kN U U U U U U (by simp) U U ?_;refine W ?_;refine Bg U U (λg2=>?_) (λg2=>?_)
  ·refine W ?_;refine Ci U (λg3=>?_) (λg3=>?_)
   ·have e1:I4 true p=.mk 0 16 true [] [.mk 0 1 false [255] [],.mk 0 2 false (B2 p) []]:=by unfold I4 Kg;rw [xD U,xD ⟨g2,g3⟩];rfl
    rw [e1];have c2:=gV Cj true (.mk 0 16 true [] [.mk 0 1 false [255] [],.mk 0 2 false (B2 p) []]) (by simp only [Nd.yP,Nd.sz,ay,aw];omega);exact m10
   ·exact m204
  ·exact m204
 ·subst g1;have e1:I4 false p=.mk 0 16 true [] []:=rfl;exact m206
instance:Cn prog 281 (type_of% @uO):=⟨@uO⟩
theorem Oz (b:yG) (hb:b.length<=1000000):yq prog 284 [.bs b] (.zZ [.st (Xt.enc (if EP b then⟨M3,false,(Tc b).put.getD []⟩ else⟨[],false,[]⟩)),.i (if EP b then 0 else 62)]):=by
 have c2:=gV M3 false (.mk 0 4 false b []) (by simp only [Nd.yP,Nd.sz];omega);refine an func284 U ntmps284 U (λe=>?_);refine W ?_;refine Bg U U (λg1=>?_) (λg1=>?_)
 ·have e1:EP b=false:=by unfold EP;rw [ah xE];rfl
  exact m206
 refine W ?_;refine Ci U (λg2=>?_) (λg2=>?_)
 ·have e1:EP b=false:=by unfold EP;rw [ah (p:=(b.length:Int)<=64) xE,yA]
  exact m206
 have e1:EP b=true:=by unfold EP;rw [ae (p:=(b.length:Int)<=64) xE,ae xE];rfl
 exact m206
instance:Cn prog 284 (type_of% @Oz):=⟨@Oz⟩
end Go.Proofs.YtilafeifbaaagaaGreatDoor
