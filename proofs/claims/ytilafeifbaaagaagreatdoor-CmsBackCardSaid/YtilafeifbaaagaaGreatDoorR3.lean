/- Parts. -/
import Derived.Test.YtilafeifbaaagaaGreatDoorR2
set_option maxRecDepth 100000
set_option maxHeartbeats 8000000
set_option linter.unusedSimpArgs false
set_option linter.unusedVariables false
set_option linter.constructorNameAsVariable false
namespace Go.Proofs.YtilafeifbaaagaaGreatDoor
open Go.Proofs.Tryz
open Go Go.RowKit
theorem m10 {p:Prop}(u:p:=by
 refine W ?_;exact Rt U U U):p:=u
theorem m13 {p:Prop}(u:p:=by
 refine Rq 3 U ?_;refine JQ.NY U U  (aG eD U zV U) U ?_;refine Rq 2 U ?_;refine JQ.FM U U  (dT (m:=last) (m':=pos) gH U U U U U zL U xE xE) U ?_;rintro _ ⟨as1,cs1,rfl,a95⟩;refine Rq 3 U ?_;refine JQ.NY U U  (aG eD U zV U) U ?_;refine Rq 4 U ?_;refine JQ.NY U U  (aG fN U zV U) U ?_;refine JQ.FM U U  (dT (m:=pos) (m':=p') gH U U U U U zL U xE xE) U ?_;rintro _ ⟨as2,cs2,rfl,a94⟩;refine JQ.Iv U U  w9 U (fy zL zL) U ?_;refine Rq 4 U ?_;refine JQ.nil ?_;refine⟨U,U,?_⟩;exact z4_):p:=u
theorem m16 {p:Prop}(u:p:=by
 refine Nk [6,10] U (Sr (JL.LZ (R:=B9) (l:=acc) zW zL U xE (λh9 FT MC=>?_)));refine aA (bK ci U zV Dn) U ?_;refine aZ ci U U zW lx ly Dn ?_;refine aj ?_;have hN:D4 (d+1) l p en=.ok (.mk c t true [] acc,pos):=(by rw [eJ hH,hK,gw xE];simp only;rw [xD (by simp_all<;>omega)]);exact dm ⟨_,[.yY br _ _],_,(bL U U ci zV Dn),.cons zW .nil,by rw [hN];exact⟨⟨_,U,B9.of bA MC⟩,U⟩⟩):p:=u
theorem m21 {p:Prop}(u:p:=by
 refine Rg (Ru 2 U (JL.Hx [.yY br _ _,.yY b6 _ _,.row _ _ _ _ _ _,.yY b2 _ _,.yY b1 _ _] HC ?_));refine aj (⟨_,?_,_,?_,⟨_,f',p',pos,acc++[x],_,_,_,_,U,U,U,U,⟨by assumption,by assumption,by assumption,by assumption,by omega,by omega,by omega,by simp;omega,by rw [hK,nt xE KR]⟩⟩⟩)
 ·omega
 exact Du):p:=u
theorem m30 {p:Prop}(u:p:=by
 refine W ?_;refine Ci U (λh=>?_) (λh=>?_)
 ·rw [x7] at h;refine W ?_;refine Rt U U ?_;simp [yR,h]
 rw [x7] at h;refine W ?_;refine Ci U (λg=>?_) (λg=>?_)
 ·have g':(AP t).isSome=false:=by cases hh:(AP t).isSome<;>simp_all
  refine W ?_;refine Rt U U ?_;simp [yR,h,g']
 have g':(AP t).isSome=true:=by cases hh:(AP t).isSome<;>simp_all
 refine W ?_;refine Rt U U ?_;simp [yR,h,g']):p:=u
theorem m31 {p:Prop}(u:p:=by
 injection h with h;injection h with h1 h2;omega):p:=u
theorem m35 {p:Prop}(u:p:=by
 refine ba [(0,_),(1,_),(2,_)] y9 ?_;refine Sr (Ru 2 U (aj (Cs U (λBy=>?_) λBy=>?_)))
 ·refine Rg (aA (aG fN U zV U) U ?_);refine Ru 1 U (aA (bi (cs:=[_,_]) N6 U U) U ?_);refine aA (bi (cs:=[_,_]) Xj U U) U ?_;refine aA (de OV U) U ?_;refine JL.panic U ?_;exact⟨_,_,.cons .here .nil,.inr ⟨By,U,U⟩⟩
 exact aO (⟨_,_,_,(df U),.cons .here .nil,.inl ⟨By,U,U⟩⟩)):p:=u
theorem m42 {p:Prop}(u:p:=by
 refine V ?_;refine Ci U (λg3=>?_) (λg3=>?_)
 ·refine V ?_;exact Rt U U (no (by rw [zt];simpa using g3))
 ·have g4:Az (yx s 0*100+yx s 2) ((s.drop 4).take 10)=true:=by simpa using g3
  refine V ?_;refine Rt U U ?_;unfold Ij;rw [zt,show Az (yx s 0*100+yx s 2) ((s.drop 4).take (14-4))=true from g4];rfl):p:=u
theorem m45 {p:Prop}(u:p:=by
 refine V ?_;refine Ci U (λg3=>?_) (λg3=>?_)
 ·refine V ?_;exact Rt U U (no (by rw [zt];simpa using g3))
 ·have g4:Az (GS s) ((s.drop 2).take 10)=true:=by simpa using g3
  refine V ?_;refine Rt U U ?_;unfold N3 Ij;rw [zt,show Az (GS s) ((s.drop 2).take (12-2))=true from g4];rfl):p:=u
theorem m46 {p:Prop}(u:p:=by
 exact⟨(),trivial,⟨⟨_,U,az⟩,⟨_,U,az⟩,⟨_,U,az⟩,⟨_,U,az⟩,trivial⟩,trivial⟩):p:=u
theorem m52 {p:Prop}(u:p:=by
 exact⟨(),trivial,⟨⟨_,U,az⟩,⟨_,U,az⟩,trivial⟩,trivial⟩):p:=u
theorem m65 {p:Prop}(u:p:=by
 refine V ?_;refine⟨i+1,by omega,⟨by omega,by rw [hat,hd,ae xE];rfl,by rw [DW,yh];omega⟩,?_,trivial⟩;rw [show((Ar (s.take (i+1)):Nat):Int)=(Ar (s.take i):Int)*10+((xF s i:Int)-48) by rw [DW];omega];exact y9):p:=u
theorem m69 {p:Prop}(u:p:=by
 exact⟨(ah (by unfold Gj;omega)).symm,λh=>by cases h⟩):p:=u
theorem m74 {p:Prop}(u:p:=by
 exact⟨[],_,.nil,by rw [gv htr hE];exact⟨U,U⟩⟩):p:=u
theorem m81 {p:Prop}(u:p:=by
 injection h4 with h4;injection h4 with h7 h8;injection h8 with h8 h9;have hq:q1=q0+n:=by omega
 refine⟨[],by simp [h7],by simp [Nd.CO],by omega,λab=>?_⟩;simp [Nd.B0,Aq,hq]):p:=u
theorem m89 {p:Prop}(u:p:=by
 refine V ?_;exact⟨Fg,Gt⟩):p:=u
theorem m90 {p:Prop}(u:p:=by
 rw [mu (by unfold Go.Lib.decodeN;rw [xC c0,xC xE,xC xE,xC xE])];split
 ·rfl
 ·rw [xD xE]):p:=u
theorem m91 {p:Prop}(u:p:=by
 refine V ?_;exact Rt U U (no (by unfold DT;rw [ah xE];rfl))):p:=u
theorem m93 {p:Prop}(u:p:=by
 refine V ?_;exact Rt U U (no (wR xE))):p:=u
theorem m107 {p:Prop}(u:p:=by
 exact⟨[],_,.nil,by rw [hN];exact⟨U,U⟩⟩):p:=u
theorem m114 {p:Prop}(u:p:=by
 exact dm ⟨_,[.yY br _ _],_,(bL U U ci zV Dn),.cons zW .nil,by rw [hN];exact⟨⟨_,U,B9.of zL bA⟩,by simp⟩⟩):p:=u
theorem m115 {p:Prop}(u:p:=by
 refine W ?_;refine Bg U U (λ_=>?_) (λ_=>?_)
 ·exact Z
 refine W ?_;refine Ci U (λ_=>?_) (λ_=>?_)
 ·exact Z
 exact Z):p:=u
theorem m120 {p:Prop}(u:p:=by
 refine W ?_;refine Rt U U ?_;simp_all [yR]):p:=u
theorem m128 {p:Prop}(u:p:=by
 refine V ?_;exact Rt U U (no (wQ xE xE))):p:=u
theorem m130 {p:Prop}(u:p:=by
 have:i=0\/i=1\/i=2\/i=3\/i=4\/i=5\/i=6:=by omega
 rcases this with rfl|rfl|rfl|rfl|rfl|rfl|rfl<;>decide):p:=u
theorem m132 {p:Prop}(u:p:=by
 exact⟨[],_,.nil,by unfold ES;rw [xC xE,xC xE,xC xE,xC xE,xD (by rw [hv];omega)];exact⟨U,U⟩⟩):p:=u
theorem m136 {p:Prop}(u:p:=by
 repeat (first|exact trivial|refine⟨rfl,?_⟩|refine⟨(by exact ji (by first|rfl|omega)),?_⟩)):p:=u
theorem m137 {p:Prop}(u:p:=by
 unfold AS Ar FZ;simp only [ya,zf,yO,Cm,List.foldl_nil,xB,a_];split
 ·rw [xD xE];omega
 ·rw [xC xE]):p:=u
theorem m144 {p:Prop}(u:p:=by
 refine W ?_;exact⟨1,by omega,by omega,y9,y9⟩):p:=u
theorem m145 {p:Prop}(u:p:=by
 refine V ?_;exact⟨true,(ae xE).symm,⟨⟨_,U,az⟩,⟨_,U,dL⟩,trivial⟩,trivial⟩):p:=u
theorem m146 {p:Prop}(u:p:=by
 refine V ?_;exact Rt U U (no (by rw [hc,xD xE]))):p:=u
theorem m154 {p:Prop}(u:p:=by
 injection h with _ h;injection h with _ h;omega):p:=u
theorem m157 {p:Prop}(u:p:=by
 refine Rq 27 U ?_;refine JQ.nil ?_;refine⟨U,U,?_⟩;exact z4_):p:=u
theorem m158 {p:Prop}(u:p:=by
 refine Rq 22 U ?_;refine JQ.nil ?_;refine⟨U,U,?_⟩;exact z4_):p:=u
theorem m175 {p:Prop}(u:p:=by
 rcases this with rfl|rfl|rfl|rfl<;>decide):p:=u
theorem m180 {p:Prop}(u:p:=by
 refine V ?_;exact Rt U U (no (Xf (i+1) xE xE (by rw [e5];exact ah xE)))):p:=u
theorem m181 {p:Prop}(u:p:=by
 exact⟨[],_,.nil,by unfold ES;rw [xC xE,xC xE,xD xE];exact⟨U,U⟩⟩):p:=u
theorem m183 {p:Prop}(u:p:=by
 rw [xC BO] at j3;refine W ?_;refine Rt U U ?_;simp only [yV,<- j3];rfl):p:=u
theorem m184 {p:Prop}(u:p:=by
 refine Sr (Ru 1 U (aA (xG.II a2s U) U ?_));refine aj (J.Df U ?_);exact aO (⟨U,U⟩)):p:=u
theorem m208 {p:Prop}(u:p:=by
 have hN:D4 (d+1) l p en=.error (xa,xc):=(by rw [eJ hH,hK,oG xE hxe]);exact m107):p:=u
abbrev G3:=@Int.add_assoc
abbrev xL:=@decide_eq_false_iff_not
abbrev yd:=@Bool.not_eq_eq_eq_not
abbrev yK:=@Bool.not_false
abbrev xM:=@Decidable.not_not
abbrev xK:=@List.take_length
abbrev G7:=@Nat.pow_pos
abbrev zh:=@UInt8.toNat_inj
abbrev zx:=@Nat.mod_eq_of_lt
abbrev Jy:=@Bool.or_true
abbrev G':=@Int.pow_pos
abbrev Ko:=@Bool.decide_and
abbrev zf:=@List.all_nil
abbrev yO:=@Bool.and_true
abbrev Kn:=@Bool.eq_iff_iff
abbrev A8:=@UInt8.lt_iff_toNat_lt
abbrev BA:=@List.length_take_le
abbrev Fz:=@List.length_replicate
abbrev Ly:=@List.replicate_succ'
abbrev SM:=@Nat.add_comm
abbrev RW {α:Type}(e:Nat) (K:Kd α) (l:List α):Ending->Part->LE->Prop:=Cb λv h' Lo=>∃ a c xs,v=.slice a l.length c/\Lo=[.row a c e K.sz l.length xs]/\yl K.R K.sz h' xs l/\l.length<=140737488355328
structure US (P:Program) [Tb P] (Fi e:Nat) {α:Type} (K:Kd α) (ds:List D) (l:List α):Prop where
 fn:∀ h vs,Tb.T P h->yT ds h vs->Fn P Fi vs h [] (RW e K l)
def FW {α:Type}(P:Program) (E:Env) (m:Nat) (fn:Func) (e:Nat) (K:Kd α) (l:List α):Fd:=⟨E,m,CU P E m fn (RW e K l),I9 (RW e K l)⟩
def a9L:y_:=λ_ _=>False
variable{h:Part}
section
variable {P:Program} [Tb P] {F:Fd}{n:y_}{x:Nat->y_}{a a1 b Au:LO}{o o1 ob:LQ}{ops:Array Oper}{rest:LR}{E:Env}{m:Nat}{fn:Func}{α:Type}{K:Kd α}{l l1 l2:List α}{e k t d Fi base:Nat}{ty:TypeId}{pos:String}{af:Array Edge}{os:Array Operand}{ts:Array TypeId}{ds:List D}{es r:List Ef}{us:List Nat}
theorem RtW (hr:fn.results=#[.tmp t]) (hx:BF a t=some (.row k)) (hk:BH o k=some (.row e (K.f l1))) (he:l1=l):JD P (FW P E m fn e K l) .ret n x a o:=.mk λρ h S L cz ac w s=>by
 subst he;obtain⟨v,h1,h2⟩:=cz.s _ _ hx;cases h2;obtain⟨y,L',hD,⟨xs,sz,rfl,Mk,NA⟩,_⟩:=cz.o.get hk;obtain⟨rfl,hn,hc⟩:=K.row.1 Mk;rw [hn] at h1 hD NA;exact dm (f:=(FW P E m fn e K l1).fr P) (n:=up P n) (x:=λi=>up P (x i)) ⟨_,_,L',λac w s=>by rw [dO];simp [hr,H_,s.slot t _ h1],.cons hD .nil,_,U,_,_,xs,U,U,hc,NA⟩ ac w s
theorem FnW.intro {c:Code}(hf:P.funcs[Fi]?=some fn) (hb:fn.body=some c) (hm:fn.ntmps=m) (hl:Nat.ble (ds.length+1) m=true) (k:∀ E,JD P (FW P E m fn e K l2) c a9L IM ((0,.row 0)::GL 1 ds) [(0,.row e (K.f l1))]):FnW P Fi e K l1 ds l2:=.mk λh a c0 xs vs hT hc hlen hd=>by
 have Lg:=hd.len;refine aQ hf hb hm (by simp only [aw,Lg];exact hl) (λE _=>?_);refine J.cut ((k E).k ⟨λ_=>0,λ_=>a,λ_=>c0,λ_=>l1.length⟩ h _ _ ⟨hT,λt y hy=>?_,_,_,U,⟨xs,K.sz,U,K.row.2 ⟨U,U,hc⟩,hlen⟩,U⟩) (λ_ _ _ ⟨_,_,_,_,hh⟩=>hh.elim) (λ_ _ _ _ ⟨_,_,_,_,hh⟩=>hh.elim);simp only [AL,BF,look] at hy |-
 cases hb:Nat.beq 0 t with
 |true=>simp only [hb,cond_true,au] at hy |-;subst hy;exact⟨_,U,U⟩
 |false =>
  simp only [hb,cond_false] at hy |-
  have:=a0b (A2:=[]) (S2:=[]) (ρ:=⟨λ_=>0,λ_=>a,λ_=>c0,λ_=>l1.length⟩) (λt y hy=>by cases hy) hd (by rw [Ak];exact hy);exact m109
theorem US.intro {c:Code}(hf:P.funcs[Fi]?=some fn) (hb:fn.body=some c) (hm:fn.ntmps=m) (hl:Nat.ble ds.length m=true) (k:∀ E,JD P (FW P E m fn e K l) c a9L IM (GL 0 ds) []):US P Fi e K ds l:=.mk λh vs hT hd=>by
 have Lg:=hd.len;refine aQ hf hb hm (by rw [Lg];exact hl) (λE _=>?_);refine J.cut ((k E).k ⟨λ_=>0,λ_=>none,λ_=>0,λ_=>0⟩ h _ _ ⟨hT,λt y hy=>?_,U⟩) (λ_ _ _ ⟨_,_,_,_,hh⟩=>hh.elim) (λ_ _ _ _ ⟨_,_,_,_,hh⟩=>hh.elim);have:=a0b (A2:=[]) (S2:=[]) (ρ:=⟨λ_=>0,λ_=>none,λ_=>0,λ_=>0⟩) (λt y hy=>by cases hy) hd (by rw [Ak];exact hy);exact m109
theorem Crw (hp:E4 (EA a os.toList) a o=some (a1,o1)) (ha:Be P a1 os.toList ts.toList=some ds) (c:US P Fi e K ds l) (hk:Cr a1 o1=some k)
 (kk:Al P F ops n x rest ((d,.row k)::a1) ((k,.row e (K.f l))::o1)) (hF:yH P Fi=true:=by kernel_rfl) (hd:Nat.blt d F.m=true:=by rfl) :
 Al P F ops n x (⟨some d,.call { callee:=.value (.func Fi),args:=os,argTypes:=ts },ty,pos,af,none⟩::rest) a o:=.mk λρ h S L cz ac w s=>by
 obtain⟨h',L',hle,zt,BG⟩:=dp hp cz s.ok;obtain⟨vs,h3,h4⟩:=cL BG ha;have:=K.mono;obtain⟨os⟩:=os;refine cI hF h3 (c.fn h' vs BG.t h4) .nil hd (λv h2 Lo zH ⟨a2,c2,Mv,e1,e3,e4,e5⟩=>?_) ac w (s.with zt);subst e1 e3;have Mp:=(BG.mono zH).eqv hk (ρ.E' k a2 c2 l.length);have CL:Bi (ρ.yI k a2 c2 l.length) h2 ((k,.row e (K.f l))::o1) ([.row a2 c2 e K.sz l.length Mv]++L'):=by
  exact m83
 exact kk.k (ρ.yI k a2 c2 l.length) h2 _ _ (cF (u:=.row k) ⟨Mp.t,Mp.s,CL⟩ (by simp [Ac.yI,zN]) d)
theorem G6.Sx (HX:Aa us (aR CT b r)=some Au) (ha:Be P Au os.toList ts.toList=some ds) (cc:US P Fi e K ds l) (hF:yH P Fi=true) (hd:Nat.blt d F.m=true) :
 G6 P F ops x b ob r (eMk us d k (.row k) (.row e (K.f l))) ⟨some d,.call { callee:=.value (.func Fi),args:=os,argTypes:=ts },ty,pos,af,none⟩:=⟨Au,HX,λn A' O' hA fA fO hn=>.mk λρ h S L cz=>by
 have cu:=cz.wk hA;obtain⟨vs,h3,h4⟩:=cL cu ha;have:=K.mono;obtain⟨os⟩:=os;refine cI hF h3 (cc.fn h vs cz.t h4) .nil hd (λv h2 Lo zH ⟨a2,c2,Mv,e1,e3,e4,e5⟩=>?_);subst e1 e3;have cf:=(cz.mono zH).fresh (ρ.GB k a2 c2 l.length) fA fO;have en:(ρ.yI k a2 c2 l.length).n k=l.length:=by simp [Ac.yI]
 have CL:Bi (ρ.yI k a2 c2 l.length) h2 ((k,.row e (K.f l))::O') ([.row a2 c2 e K.sz l.length Mv]++L) :=
  ⟨_,L,U,⟨Mv,K.sz,by simp [Ac.yI],by rw [en];exact K.row.2 ⟨U,U,e4⟩,by rw [en];exact e5⟩,cf.o⟩
 exact aj ⟨_,_,_,cF (u:=.row k) ⟨cf.t,cf.s,CL⟩ (by simp [Ac.yI,zN]) d,hn⟩⟩
theorem Xrw (HX:Aa (IF os.toList) a=some Au) (ha:Be P Au os.toList ts.toList=some ds) (cc:US P Fi e K ds l) (hv:Cr a o=some k)
 (kk:JX P F ops n x b ob base (eMk (IF os.toList) d k (.row k) (.row e (K.f l))::es) rest ((d,.row k)::a) ((k,.row e (K.f l))::o)) (hF:yH P Fi=true:=by kernel_rfl) (hd:Nat.blt d F.m=true:=by rfl) :
 JX P F ops n x b ob base es (⟨some d,.call { callee:=.value (.func Fi),args:=os,argTypes:=ts },ty,pos,af,none⟩::rest) a o :=
 JX.put (λYM ho=>⟨G6.Sx (by rw [<- YM];exact HX) ha cc hF hd,by subst YM;rfl,by subst ho;rfl⟩) kk
def Qs (v k:Nat) (a:LO) (o:LQ):Option (LO×LQ):=match BH o v,H7 o v with
 |some (.row t d),some o3=>match Nh k a,Ng k o3 with
  |some a1,some o1=>match WV v k a1,WU v k o1 with
   |some a2,some o2=>some (a2,(k,.row t d)::o2)
   |_,_=>none
  |_,_=>none
 |_,_=>none
theorem Cz.ren {v:Nat}{a2:LO}{o2:LQ}{ρ:Ac}{S:AH}{L:LE}(hr:Qs v k a o=some (a2,o2)) (cz:Cz P ρ h a o S L):∃ Ex L' Lr,zO L' L Lr/\Cz P Ex h a2 o2 S L':=by
 unfold Qs at hr;split at hr
 ·rename_i t d o3 hv hq;split at hr
  ·rename_i a1 o1 hja hjo;split at hr<;>cases hr;rename_i hro hra;obtain rfl:=eZ hq;obtain⟨y,L2,hD,⟨xs,sz,rfl,hR,hb⟩,hr⟩:=cz.o.get hv;have q:(ρ.yI k (ρ.a v) (ρ.c v) (ρ.n v)).a k=(ρ.yI k (ρ.a v) (ρ.c v) (ρ.n v)).a v/\(ρ.yI k (ρ.a v) (ρ.c v) (ρ.n v)).c k=(ρ.yI k (ρ.a v) (ρ.c v) (ρ.n v)).c v/\(ρ.yI k (ρ.a v) (ρ.c v) (ρ.n v)).n k=(ρ.yI k (ρ.a v) (ρ.c v) (ρ.n v)).n v:=by
    exact m108
   refine⟨ρ.yI k (ρ.a v) (ρ.c v) (ρ.n v),.row (ρ.a v) (ρ.c v) t sz (ρ.n v) xs::L2,[],.cons hD .all,cz.t,λs y hy=>?_,_,L2,U,⟨xs,sz,by simp [Ac.yI],by simpa [Ac.yI] using hR,by simpa [Ac.yI] using hb⟩,sC q hro (mJ hjo hr)⟩;exact m73
  ·cases hr
 ·cases hr
abbrev TrT:=LO->LQ->Option (LO×LQ)
structure Tr (P:Program) [Tb P] (T:TrT):Prop where
 ok:∀ {a o q} {ρ:Ac} {h:Part} {S:AH} {L:LE} {e:Env} {w:World},T a o=some q->Cz P ρ h a o S L->Ok e h L w->∃ Ex h' L',Ok e h' L' w/\Cz P Ex h' q.1 q.2 S L'
theorem trR {v:Nat}:Tr P (Qs v k):=⟨λhr cz s=>by
 obtain⟨Ex,L',Lr,h1,h2⟩:=cz.ren hr;exact⟨Ex,_,L',h1.ok _ s,h2⟩⟩
def a8b:TrT:=λa o=>E4 (Ye o) a o
theorem trP:Tr P a8b:=⟨λhr cz s=>by
 obtain⟨h',L',_,zt,BG⟩:=dp hr cz s;exact⟨_,h',L',zt,BG⟩⟩
theorem Lt {T:TrT}(hT:Tr P T) {c:Code}{ak:LO}{γ:Type _}(ks:List Nat) (I:γ->Prop) (t:γ->Nat) (ab:γ->LO) (oo:γ->LQ) (g0:γ) (hI:I g0) (hk:Aa ks a=some ak)
 (round:∀ g,I g->JD P F c (λa' o'=>∃ q,T a' o'=some q/\∃ g',t g'<t g/\I g'/\Jq (ab g'++ak) q.1/\I7 (oo g') q.2) x (ab g++ak) (oo g)) (hA:Jq (ab g0++ak) a) (hO:I7 (oo g0) o):JD P F (.loop c) n x a o:=.mk λρ h S L cz ac w s=>by
 obtain⟨L',Lr,h1,h2⟩:=cz.wd2 hA hO;refine fk (λi ac w=>∃ g S h L,t g=i/\I g/\Sat (F.fr P).e (F.fr P).m S h L ac w/\∃ ρ,Cz P ρ h (ab g++ak) (oo g) S L) ?_ (t g0) ac w ⟨g0,S,h,L',U,hI,s.with (h1.ok w s.ok),ρ,h2⟩;rintro _ ac w ⟨g,S,h,L,rfl,hg,s,ρ,cz⟩;refine LG ((round g hg).k ρ h S L cz ac w s) (λex a' w' q=>?_);cases ex with
 |normal =>
  obtain⟨S',h',L',s',Ex,a1,o1,BG,q,hr,g',yJ,hg',hA',hO'⟩:=q;obtain⟨ρ2,h2,L1,h5,cz2⟩:=hT.ok hr BG s'.ok;obtain⟨L2,Lr2,h3,h4⟩:=cz2.wd2 hA' hO';exact⟨t g',yJ,g',S',h2,L2,U,hg',(s'.with h5).with (h3.ok w' h5),ρ2,h4⟩
 |_=>exact q
end
theorem En.i {k:IntKind}{p q:Int}(h:p=q):En (.d (.v (.int k p))) (.d (.v (.int k q))):=h ▸ az
theorem En.nb:En (.d (.v (.slice none 0 0))) (.d (.bs [])):=λ_ h v k=>by rw [cY.1 (show Den (.v (.slice none 0 0)) h v from k)];exact kK
theorem En.nn:En (.d (.v (.slice none 0 0))) (.d (.AX [])):=λ_ h v k=>by rw [cY.1 (show Den (.v (.slice none 0 0)) h v from k)];exact lR
theorem En.e {p q:A}(h:p=q):En p q:=h ▸ az
theorem Fg {a aa:LO}(h:Jq aa a:=by repeat' (first|exact trivial|refine⟨⟨_,rfl,az⟩,?_⟩|refine⟨⟨_,rfl,dL⟩,?_⟩|refine⟨⟨_,rfl,En.i xE⟩,?_⟩|refine⟨⟨_,rfl,En.nb⟩,?_⟩|refine⟨⟨_,rfl,En.nn⟩,?_⟩)):Jq aa a:=h
theorem Gt {o oo:LQ}(h:I7 oo o:=by repeat' (first|exact trivial|refine⟨rfl,?_⟩)):I7 oo o:=h
theorem Sb {p q:Prop}(k:q) (h:Tg q->p:=by
 intro k
 repeat (first|refine JD.skip ?_|refine JD.block ?_|refine JD.exit ?_|refine JD.seq ?_)
 exact k.k):p:=h ⟨k⟩
theorem En.bt {b:Bool}(h:b=true):En (.d (.v (.bool true))) (.d (.bq b)):=h ▸ dL
theorem En.bf {b:Bool}(h:b=false):En (.d (.v (.bool false))) (.d (.bq b)):=h ▸ dL
theorem En.be {b c:Bool}(h:c=b):En (.d (.bq c)) (.d (.bq b)):=h ▸ az
variable{F:Fd}{P:Program}
theorem L1  [Tb P]{n:y_}{x:Nat->y_}{a:LO}{o:LQ}{c:Code}(k:JD P F c (λ_ _=>False) x a o):JD P F (.loop c) n x a o:=.mk λρ h S L cz ac w s=>by
 refine fk (λ_ ac w=>∃ S h L,Sat (F.fr P).e (F.fr P).m S h L ac w/\∃ ρ,Cz P ρ h a o S L) ?_ 0 ac w ⟨S,h,L,s,ρ,cz⟩;rintro _ ac w ⟨S,h,L,s,ρ,cz⟩;refine LG (k.k ρ h S L cz ac w s) (λex a' w' q=>?_);cases ex with
 |normal=>obtain⟨_,_,_,_,_,_,_,_,hh⟩:=q;exact hh.elim
 |_=>exact q
theorem Jb  [Tb P]{n:y_}{x x':Nat->y_}{a ak:LO}{o:LQ}{c d:Code}(t:Nat) (ks:List Nat) (b:Bool) (hk:Aa ks a=some ak) (k1:JD P F c (λa1 o1=>Jq ((t,.d (.bq b))::ak) a1/\I7 o o1) x a o) (k2:JD P F d n x' ((t,.d (.bq b))::ak) o):JD P F c (JD P F d n x') x a o :=
 JD.cut k1 (λa1 o1 ⟨hA,hO⟩=>k2.wd hA hO) (λ_ _ _ h=>h)
theorem Js  [Tb P]{n:y_}{x x':Nat->y_}{a ak:LO}{o:LQ}{c d:Code}(ks:List Nat) (aa:LO) (hk:Aa ks a=some ak) (k1:JD P F c (λa1 o1=>Jq (aa++ak) a1/\I7 o o1) x a o) (k2:JD P F d n x' (aa++ak) o):JD P F c (JD P F d n x') x a o :=
 JD.cut k1 (λa1 o1 ⟨hA,hO⟩=>k2.wd hA hO) (λ_ _ _ h=>h)
theorem Jw  [Tb P]{n:y_}{x x':Nat->y_}{a ak:LO}{o:LQ}{c d:Code}(ks:List Nat) (aa:LO) (hk:Aa ks a=some ak) (k2:JD P F d n x' (aa++ak) o) (k1:JD P F c (λa1 o1=>Jq (aa++ak) a1/\I7 o o1) x a o:=by refine V ?_;exact⟨Fg,Gt⟩):JD P F c (JD P F d n x') x a o:=Js ks aa hk k1 k2
theorem S1 {p q:Prop}(k:q) (h:Tg q->p:=by
 intro k;refine JD.seq ?_;refine JD.region ?_;refine R3 U U ?_;refine Al.nil ?_;exact k.k):p:=h ⟨k⟩
section
variable {P:Program} [Tb P] {F:Fd}{a:LO}{o:LQ}{ops:Array Oper}{d e:Nat}{ty T:TypeId}{pos:String}{af:Array Edge}{g:Option (Nat×Bool)}{xo lo hi:Operand}{i j:Int}{kk k2:IntKind}
theorem yi.b1q {α:Type}(K:Kd α) {l:List α}(m m':Nat) (hx:z' a xo=some (.d (K.f l))) (hl:z' a lo=some (.d (.v (.int kk i)))) (hh:z' a hi=some (.d (.v (.int k2 j)))) (Bx:i=(m:Int)) (hj:j=(m':Int)) (h1:m<=m'/\m'<=l.length) (hT:Ig P T=some (e,K.sz)) (hg:Cc ops a g=some true) (hd:Nat.blt d F.m=true) :
 yi P F ops a o ⟨some d,.slice T xo (some lo) (some hi) none,ty,pos,af,g⟩ d (.d (K.f ((l.drop m).take (m'-m)))):=.run hg hd λρ h S L cz=>by
 obtain⟨v,h2,h3⟩:=bv cz hx;obtain⟨aa,cc,rfl,hR⟩:=K.den.1 h3;obtain⟨w,h4,h5⟩:=dT (f:=F.fr P) (S:=S) (L:=L) (ty:=ty) hT h2 (bR cz hl) (bR cz hh) Bx hj hR U h1.1 h1.2;exact⟨w,h4,K.den.2 h5⟩
end
section
variable {P:Program} [Tb P] {F:Fd}{a:LO}{o:LQ}{ops:Array Oper}{d:Nat}{ty T yt:TypeId}{pos:String}{af:Array Edge}{g:Option (Nat×Bool)}{xo yo:Operand}{p q:Int}{k:IntKind}
theorem yi.b0j (hx:z' a xo=some (.d (.v (.int k p)))) (hy:z' a yo=some (.d (.v (.int k q)))) (hg:Cc ops a g=some true) (hd:Nat.blt d F.m=true) :
 yi P F ops a o ⟨some d,.binOp .mul T xo yo yt,ty,pos,af,g⟩ d (.d (.v (.int k (k.wrap (p*q))))):=.bin hx hy (λ_ _ _ h1 h2=>xG.mul h1 h2) hg hd
theorem yi.b1w (hx:z' a xo=some (.d (.v (.int k p)))) (hy:z' a yo=some (.d (.v (.int k q)))) (hg:Cc ops a g=some true) (hd:Nat.blt d F.m=true) :
 yi P F ops a o ⟨some d,.binOp .add T xo yo yt,ty,pos,af,g⟩ d (.d (.v (.int k (k.wrap (p+q))))):=.bin hx hy (λ_ _ _ h1 h2=>xG.add h1 h2) hg hd
end
theorem jb_ {t:Nat}{b:Bool}{ak a1:LO}{o o1:LQ}(h:Jq ((t,.d (.bq b))::ak) a1/\I7 o o1:=by
 exact⟨⟨⟨_,U,by first|exact En.bt rfl|exact En.bt (ae xE)|exact En.bf (ah xE)|exact En.be rfl|exact En.be (y7.2 xE)|exact En.be (ae xE).symm|exact En.be (ah xE).symm|exact En.bt (by simp_all [Nd.bytes,Nd.kids])|exact En.bf (by simp_all [Nd.bytes,Nd.kids])|exact En.be (by simp_all [Nd.bytes,Nd.kids])⟩,Fg⟩,Gt⟩):Jq ((t,.d (.bq b))::ak) a1/\I7 o o1:=h
variable{p:Prop}
theorem Yj (h:p:=by
 refine V ?_
 repeat' (first
  |(refine Bg rfl rfl (λ_=>?_) (λ_=>?_)<;>refine V ?_)
  |exact jb_)):p:=h
theorem Lk  [Tb P]{n:y_}{x:Nat->y_}{a ak:LO}{o:LQ}{c:Code}{γ:Type _}(ks:List Nat) (I:γ->Prop) (t:γ->Nat) (ab:γ->LO) (oo:γ->LQ) (g0:γ) (hI:I g0) (hk:Aa ks a=some ak)
 (round:∀ g,I g->JD P F c (λa' o'=>∃ g',t g'<t g/\I g'/\Jq (ab g'++ak) a'/\I7 (oo g') o') x (ab g++ak) (oo g)) (hA:Jq (ab g0++ak) a:=by exact Fg) (hO:I7 (oo g0) o:=by exact Gt):JD P F (.loop c) n x a o:=Lq I t (λg=>ab g++ak) oo g0 hI hA hO round
section
attribute [local irreducible] Nat.sub
section
variable {P:Program} [Tb P] {F:Fd}{a:LO}{o:LQ}{ops:Array Oper}{d:Nat}{ty T yt:TypeId}{pos:String}{af:Array Edge}{g:Option (Nat×Bool)}{xo yo:Operand}{p q:Int}{k:IntKind}
theorem yi.b03 (D:Int) (hx:z' a xo=some (.d (.v (.int .i64 p)))) (hy:z' a yo=some (.d (.v (.int k q)))) (h:(0<=q/\q<=64)/\(2:Int) ^ q.toNat=D/\-9223372036854775808<=p*D/\p*D<=9223372036854775807) (hg:Cc ops a g=some true) (hd:Nat.blt d F.m=true) :
 yi P F ops a o ⟨some d,.binOp .shl T xo yo yt,ty,pos,af,g⟩ d (.d (.v (.int .i64 (p*D)))):=.bin hx hy (λ_ _ _ h1 h2=>xG.LP D h1 h2 h.1.1 h.1.2 h.2.1 h.2.2.1 h.2.2.2) hg hd
theorem yi.a4T {k':IntKind}(hx:z' a xo=some (.d (.v (.int k p)))) (hy:z' a yo=some (.d (.v (.int k' q)))) (h0:0<=q/\q<=k.bits) (hg:Cc ops a g=some true) (hd:Nat.blt d F.m=true) :
 yi P F ops a o ⟨some d,.binOp .shr T xo yo yt,ty,pos,af,g⟩ d (.d (.v (.int k (p / 2 ^ q.toNat)))):=.bin hx hy (λ_ _ _ h1 h2=>xG.shr h1 h2 h0.1 h0.2) hg hd
theorem yi.a8E (i:Nat) (D:Int) (hx:z' a xo=some (.d (.v (.int .i64 p)))) (hy:z' a yo=some (.d (.v (.int .i64 q)))) (hD:(2:Int) ^ i=D) (h:(0<=p/\p % D=0/\p<=9223372036854775807)/\0<=q/\q<D/\q<=9223372036854775807) (hg:Cc ops a g=some true) (hd:Nat.blt d F.m=true) :
 yi P F ops a o ⟨some d,.binOp .or T xo yo yt,ty,pos,af,g⟩ d (.d (.v (.int .i64 (p+q)))):=.bin hx hy (λ_ _ _ h1 h2=>xG.Ni i D h1 h2 hD h.1.1 h.1.2.1 h.1.2.2 h.2.1 h.2.2.1 h.2.2.2) hg hd
theorem yi.a5A (m:Nat) (hx:z' a xo=some (.d (.v (.int .u8 p)))) (hp:p=(m:Int)) (hm:m<224/\m % 64<32) (hg:Cc ops a g=some true) (hd:Nat.blt d F.m=true) :
 yi P F ops a o ⟨some d,.binOp .or T xo (.const (.int .u8 32)) yt,ty,pos,af,g⟩ d (.d (.v (.int .u8 ((m:Int)+32)))):=.run hg hd λρ h S L cz=>by
 have e1:((UInt8.ofNat m).toNat:Int)=(m:Int):=by rw [xZ];omega
 have e2:((UInt8.ofNat (m+32)).toNat:Int)=(m:Int)+32:=by rw [xZ];omega
 refine⟨_,xG.a5A m (by rw [e1,<- hp];exact bR cz hx) hm.1 hm.2,?_⟩;rw [e2];exact bh (h:=h)
end
theorem a6l (x:Nd) (n:Nat) (hc:x.cls=0\/x.cls=2) (ht:0<=x.tag/\x.tag<=30) (hn:n<=140737488355328):US prog 165 5 kB [.nd x,.i (n:Int)] (BM x.cls x.tag x.cons n):=by
 have rm:Rm:=⟨⟩;have hk:=mD n;refine US.intro func165 U ntmps165 U (λe=>?_);refine V ?_;refine aI (yi.b03 64 U U ⟨⟨by decide,by decide⟩,U,by omega,by omega⟩ U U) ?_;refine V ?_;refine aI (yi.a8E 6 64 U U U ⟨⟨by omega,by omega,by omega⟩,by omega,by omega,by omega⟩ U U) ?_;refine V ?_;refine Js [1,2] [(5,.d (.v (.int .u8 (Ee x.cls x.tag x.cons:Nat))))] U ?_ ?_
 ·refine Ci U (λq=>?_) (λq=>?_)
  ·have:Ee x.cls x.tag x.cons=(64*x.cls+x.tag).toNat+32:=by unfold Ee;rw [xD q]
   refine V ?_;refine aI (yi.a5A (64*x.cls+x.tag).toNat U xE xE U U) ?_;refine V ?_;exact⟨Fg,Gt⟩
  ·have:Ee x.cls x.tag x.cons=(64*x.cls+x.tag).toNat+0:=by unfold Ee;rw [xC (by simpa using q)]
   exact m89
 have htg:Ee x.cls x.tag x.cons<256:=by unfold Ee;split<;>omega
 refine Vi (λq=>?_) (λq=>?_)
 ·refine V ?_;refine RtW U U U ?_;rw [j6 xE];simp
 refine V ?_;rw [CC];refine Lk (γ:=Nat) [1,6] (λj=>1<=j/\j<=EV n) (λj=>7-j) (λj=>[(7,.d (.i (j:Int)))]) (λ_=>[(1,.row 5 (.bs [UInt8.ofNat (Ee x.cls x.tag x.cons)]))]) 1 ⟨by omega,by omega⟩ U ?_;rintro j ⟨h1,h2⟩;have hgt:=XS n j hn h1 h2;refine V ?_;refine aI (yi.a4T U U ⟨by omega,show _<=(64:Int) by omega⟩ U U) ?_;rw [oh n j _ rfl];refine Vi (λq2=>?_) (λq2=>?_)
 ·refine V ?_;exact⟨j+1,by omega,by omega,Fg,Gt⟩
 obtain rfl:j=EV n:=by omega
 refine V ?_;rw [show(128+(EV n:Int)).toNat=128+EV n by omega];refine Lk (γ:=Nat×yG) [1] (λ(j,out)=>j<=EV n/\out.length+j=EV n+2/\BM x.cls x.tag x.cons n=out++be j n) (λ(j,_)=>j) (λ(j,_)=>[(6,.row 1),(7,.d (.i (j:Int)))]) (λ(_,out)=>[(1,.row 5 (.bs out))]) (EV n,_) ⟨by omega,by simp;omega,x9 xE⟩ U ?_;rintro⟨j,out⟩ ⟨hj,hol,he⟩;refine Vi (λq3=>?_) (λq3=>?_)
 ·obtain⟨i,rfl⟩:∃ i,j=i+1:=⟨j-1,by omega⟩;refine V ?_;refine aI (yi.a4T U U ⟨by omega,show _<=(64:Int) by omega⟩ U U) ?_;rw [oh n i _ xE];refine V ?_;exact⟨(i,out++[UInt8.ofNat (n / 256 ^ i)]),by dsimp only;omega,⟨by omega,by simp only [aF,aw,ay];omega,by rw [he,xW];rfl⟩,Fg,Gt⟩
 ·refine V ?_;refine RtW U U U ?_;have P8:j=0:=by omega
  rw [he,P8];simp [be]
end
theorem Rb (t:Int):yq prog 251 [.i t] (.zZ [.b (decide (form t≠0)),.b (decide (form t=2))]):=by
 unfold form;exact an func251 U ntmps251 U (λe=>Y)
instance:Cn prog 251 (type_of% @Rb):=⟨@Rb⟩
theorem R8 (l:yG):yq prog 217 [.bs l] (.b (AY l)):=by
 have e0:xF l 0=(l.getD 0 0).toNat:=rfl;have e1:xF l 1=(l.getD 1 0).toNat:=rfl;unfold AY;rw [e0,e1];exact an func217 U ntmps217 U (λe=>Y)
instance:Cn prog 217 (type_of% @R8):=⟨@R8⟩
theorem OM (x:Nd):yq prog 159 [.nd x] (.b (B6 x.cls x.tag x.cons)):=by
 have hf:form x.tag=0\/form x.tag=1\/form x.tag=2:=by unfold form;(repeat' split)<;>simp
 refine an func159 U ntmps159 U (λe=>?_);refine V ?_;refine Bg U U (λ_=>?_) (λ_=>?_)
 ·refine V ?_;refine Rt U U ?_;unfold B6;rw [ah xE];rfl
 refine V ?_;refine Ci U (λ_=>?_) (λ_=>?_)
 ·refine V ?_;refine Rt U U ?_;unfold B6;rw [ah xE];rfl
 have ht:decide (0<=x.tag/\x.tag<=30)=true:=ae xE;refine V ?_;refine Ci U (λc2=>?_) (λc2=>?_)
 ·refine V ?_;refine Rt U U ?_;unfold B6;rw [ht,ae c2];rfl
 refine V ?_;refine Ci U (λc0=>?_) (λc0=>?_)
 ·refine V ?_;refine Bg U U (λq=>?_) (λq=>?_)
  ·refine V ?_;refine Rt U U ?_;unfold B6;rw [ht,ah c2,ae c0];show D.bq _=D.bq _;refine congrArg D.bq ?_;rcases hf with h|h|h<;>rw [h]<;>cases x.cons<;>first|rfl|exact absurd h q
  ·refine V ?_;refine Rt U U ?_;unfold B6;rw [ht,ah c2,ae c0,show form x.tag=0 from q];rfl
 refine V ?_;refine Rt U U ?_;unfold B6;rw [ht,ah c2,ah c0];rfl
instance:Cn prog 159 (type_of% @OM):=⟨@OM⟩
theorem Yb (y:Int) (h0:0<=y):yq prog 358 [.i y] (.b (IJ y)):=by
 unfold IJ;exact an func358 U ntmps358 U (λe=>Z)
instance:Cn prog 358 (type_of% @Yb):=⟨@Yb⟩
theorem pc (y m:Int) (h0:0<=y):yq prog 344 [.i y,.i m] (.i (zR y m)):=by
 unfold zR;exact an func344 U ntmps344 U (λe=>Z)
theorem rW (y:Int) (h0:0<=y) (h1:y<=1000000):yq prog 345 [.i y] (.i (xT y)):=by
 unfold xT;exact an func345 U ntmps345 U (λe=>Y)
theorem qf (s:yG) (i:Nat) (h1:i+1<s.length) (h2:s.length<=140737488355328):yq prog 314 [.s s,.i (i:Int)] (.i (yx s i)):=by
 have b1:=bn s i;have b2:=bn s (i+1);unfold yx;exact an func314 U ntmps314 U (λe=>Y)
instance:Cn prog 344 (type_of% @pc):=⟨@pc⟩
theorem lJ (y:Int) (s:yG) (h1:y<=1000000) (h2:s.length=10):yq prog 315 [.i y,.s s] (.zZ [.i (Ij y s),.b (Az y s)]):=by
 have w0:=cM s 0;have w2:=cM s 2;have w4:=cM s 4;have w6:=cM s 6;have w8:=cM s 8;have w1:=cO y (yx s 0);have t0:yq prog 314 [.s s,.i 0] (.i (yx s 0)):=qf s 0 xE xE;have t2:yq prog 314 [.s s,.i 2] (.i (yx s 2)):=qf s 2 xE xE;have t4:yq prog 314 [.s s,.i 4] (.i (yx s 4)):=qf s 4 xE xE;have t6:yq prog 314 [.s s,.i 6] (.i (yx s 6)):=qf s 6 xE xE;have t8:yq prog 314 [.s s,.i 8] (.i (yx s 8)):=qf s 8 xE xE;have no:¬ (0<=y/\1<=yx s 0/\yx s 0<=12/\1<=yx s 2/\yx s 2<=zR y (yx s 0)/\0<=yx s 4/\yx s 4<=23/\0<=yx s 6/\yx s 6<=59/\0<=yx s 8/\yx s 8<=59)->yR [.i 0,.b false]=.zZ [.i (Ij y s),.b (Az y s)]:=λh=>by
  have e:Az y s=false:=ah h;unfold Ij;rw [e];rfl
 refine an func315 U ntmps315 U (λe=>?_);refine W ?_;refine Ci U (λ_=>?_) (λ_=>?_)
 ·refine W ?_;exact Rt U U (no xE)
 have h0:0<=y:=by omega
 refine W ?_
 repeat
  refine Bg U U (λ_=>?_) (λ_=>?_)
  ·refine W ?_;exact Rt U U (no xE)
  refine W ?_
 refine Ci U (λ_=>?_) (λ_=>?_)
 ·refine W ?_;exact Rt U U (no xE)
 have bb:=iI y h0 h1;have cb:=rW y h0 h1;refine W ?_;refine Lp (γ:=Nat) (λk=>(k:Int)<yx s 0) (λk=>13-k) (λk=>[(0,.d (.i y)),(6,.d (.i (yx s 0))),(8,.d (.i (yx s 4))),(9,.d (.i (yx s 6))),(10,.d (.i (yx s 8))),(11,.d (.i (xT y+(yx s 2-1)+zM y k))),(12,.d (.i ((k:Int)+1)))]) (λ_=>[]) 0 xE ⟨U,U,U,U,U,by show _=some (A.d (.i (xT y+(yx s 2-1)+0)));rw [Int.add_zero];rfl,U,trivial⟩ trivial ?_;intro k hk;have hm:=ph y k;have hb:=cO y ((k:Int)+1);refine V ?_;refine Ci U (λg=>?_) (λg=>?_)
 ·refine V ?_;refine⟨k+1,by omega,by omega,⟨U,U,U,U,U,?_,U,trivial⟩,trivial⟩;show _=some (A.d (.i (xT y+(yx s 2-1)+(zM y k+zR y ((k:Int)+1)))));rw [<- G3];rfl
 refine V ?_;refine Rt U U ?_;have e:Az y s=true:=ae xE;unfold Ij FR;rw [e,xD U,show(yx s 0).toNat-1=k by omega];rfl
instance:Cn prog 315 (type_of% @lJ):=⟨@lJ⟩
theorem mq (s:yG) (h2:s.length<=140737488355328):yq prog 256 [.s s] (.zZ [.i (N3 s),.i (if DT s then 0 else 21)]):=by
 have w0:=cM s 0;have no:DT s=false->yR [.i 0,.i 21]=.zZ [.i (N3 s),.i (if DT s then 0 else 21)]:=λh=>by unfold N3;rw [h];rfl
 refine an func256 U ntmps256 U (λe=>?_);refine V ?_;refine Bg U U (λg=>?_) (λg=>?_)
 ·exact m91
 refine V ?_;refine Ci U (λg2=>?_) (λg2=>?_)
 ·exact m91
 have t0:yq prog 314 [.s s,.i 0] (.i (yx s 0)):=qf s 0 xE xE;have hl:((s.drop 2).take (12-2)).length=10:=by rw [aS,aM];omega
 have zt:DT s=Az (GS s) ((s.drop 2).take 10):=by unfold DT;rw [ae xE];rfl
 refine V ?_;refine Jm (γ:=Unit) (λ_=>[(0,.d (.s s)),(4,.d (.i (GS s)))]) (λ_=>[]) (λ_=>True) ?_ ?_
 ·refine Ci U (λg3=>?_) (λg3=>?_)
  ·refine V ?_;refine Ci U (λg4=>?_) (λg4=>?_)
   ·have e:GS s=yx s 0+1900+100:=by unfold GS;rw [xD g3,xD g4]
    rw [e];refine V ?_;exact m52
   ·have e:GS s=yx s 0+1900:=by unfold GS;rw [xD g3,xC g4]
    rw [e];refine V ?_;exact m52
  ·have e:GS s=yx s 0:=by unfold GS;rw [xC g3]
   rw [e];refine V ?_;exact m52
 rintro _ _;have cm:=lJ (GS s) ((s.drop 2).take (12-2)) (by unfold GS;(repeat' split)<;>omega) hl;exact m45
theorem oM (s:yG) (h2:s.length<=140737488355328):yq prog 257 [.s s] (.zZ [.i (if BS s then FR (yx s 0*100+yx s 2) ((s.drop 4).take 10) else 0),.i (if BS s then N7 s else 0),.i (if BS s then 0 else 21)]):=by
 have w0:=cM s 0;have w2:=cM s 2;have no:BS s=false->yR [.i 0,.i 0,.i 21]=.zZ [.i (if BS s then FR (yx s 0*100+yx s 2) ((s.drop 4).take 10) else 0),.i (if BS s then N7 s else 0),.i (if BS s then 0 else 21)]:=λh=>by rw [h];rfl
 have e1:((s.length:Int)-1).toNat=s.length-1:=by omega
 have e2:((s.length:Int)-2).toNat=s.length-2:=by omega
 refine an func257 U ntmps257 U (λe=>?_);refine V ?_;refine Bg U U (λg=>?_) (λg=>?_)
 ·exact m93
 refine V ?_;refine Bg U U (λg1=>?_) (λg1=>?_)
 ·exact m93
 refine V ?_;refine Ci U (λg2=>?_) (λg2=>?_)
 ·rw [e1] at g2;exact m93
 rw [e1] at g2;have t0:yq prog 314 [.s s,.i 0] (.i (yx s 0)):=qf s 0 xE xE;have t2:yq prog 314 [.s s,.i 2] (.i (yx s 2)):=qf s 2 xE xE;refine V ?_;refine Jm (γ:=Unit) (λ_=>[(0,.d (.s s)),(6,.d (.i (N7 s)))]) (λ_=>[]) (λ_=>BS s=Az (yx s 0*100+yx s 2) ((s.drop 4).take 10)) ?_ ?_
 ·refine Ci U (λg3=>?_) (λg3=>?_)
  rotate_left
  ·refine V ?_;rw [show N7 s=0 from xD xE];exact⟨(),a3F xE xE,⟨⟨_,U,az⟩,⟨_,U,az⟩,trivial⟩,trivial⟩
  refine V ?_;refine Bg U U (λg4=>?_) (λg4=>?_)
  ·exact m128
  refine V ?_;refine Bg U U (λg5=>?_) (λg5=>?_)
  ·exact m128
  refine V ?_;refine Ci U (λg4=>?_) (λg4=>?_)
  ·rw [e2] at g4;exact m128
  rw [e2] at g4;refine V ?_;refine Lp (γ:=Nat) (λi=>i<=6/\BY s i=true) (λi=>7-i) (λi=>[(0,.d (.s s)),(5,.d (.i (s.length:Int))),(6,.d (.i (Er s i))),(42,.d (.i (i:Int)))]) (λ_=>[]) 0 ⟨by omega,U⟩ y9 trivial ?_;rintro i ⟨hi,hm⟩;have hb:=QZ s i hm;have hp:(10:Int) ^ i<=1000000:=by
   exact m130
  refine V ?_;refine Ci U (λg5=>?_) (λg5=>?_)
  ·refine V ?_;refine Ci U (λg6=>?_) (λg6=>?_)
   ·have hl:=bn s (15+i);have e4:Er s (i+1)=Er s i*10+((xF s (15+i):Int)-48):=by simp only [Er];rw [xD xE]
    have e5:BY s (i+1)=decide (48<=xF s (15+i)/\xF s (15+i)<=57):=by simp only [BY,hm,xQ];rw [xD xE]
    refine V ?_;rw [show((15:Int)+i).toNat=15+i by omega];refine Bg U U (λg7=>?_) (λg7=>?_)
    ·exact m180
    refine V ?_;refine Ci U (λg8=>?_) (λg8=>?_)
    ·exact m180
    refine V ?_;refine⟨i+1,by omega,⟨by omega,by rw [e5];exact ae xE⟩,?_,trivial⟩;rw [e4];exact y9
   ·have e4:Er s (i+1)=Er s i*10:=by simp only [Er];rw [xC xE];omega
    refine V ?_;refine⟨i+1,by omega,⟨by omega,by simp only [BY,hm,xQ];rw [xC xE]⟩,?_,trivial⟩;rw [e4];exact y9
  ·obtain rfl:i=6:=by omega
   refine V ?_;rw [show N7 s=Er s 6 from xC xE];exact⟨(),a3E xE xE xE hm,⟨⟨_,U,az⟩,⟨_,U,az⟩,trivial⟩,trivial⟩
 rintro _ zt;have hl:((s.drop 4).take (14-4)).length=10:=by rw [aS,aM];omega
 have cm:=lJ (yx s 0*100+yx s 2) ((s.drop 4).take (14-4)) xE hl;exact m42
section
attribute [local irreducible] Nat.sub
section
variable {P:Program} [Tb P] {F:Fd}{a:LO}{o:LQ}{ops:Array Oper}{d:Nat}{ty T yt:TypeId}{pos:String}{af:Array Edge}{g:Option (Nat×Bool)}{xo yo:Operand}{p q:Int}{k k':IntKind}
theorem yi.b02 (D:Int) (hx:z' a xo=some (.d (.v (.int .u64 p)))) (hy:z' a yo=some (.d (.v (.int k q)))) (h:(0<=q/\q<=64)/\(2:Int) ^ q.toNat=D/\0<=p*D/\p*D<=18446744073709551615) (hg:Cc ops a g=some true) (hd:Nat.blt d F.m=true) :
 yi P F ops a o ⟨some d,.binOp .shl T xo yo yt,ty,pos,af,g⟩ d (.d (.v (.int .u64 (p*D)))):=.bin hx hy (λ_ _ _ h1 h2=>xG.a0V D h1 h2 h.1.1 h.1.2 h.2.1 h.2.2.1 h.2.2.2) hg hd
theorem yi.a8u (i:Nat) (D:Int) (hx:z' a xo=some (.d (.v (.int .u8 p)))) (hy:z' a yo=some (.d (.v (.int .u8 q)))) (h:(2:Int) ^ i-1=q/\(2:Int) ^ i=D/\i<=8/\0<=p/\p<=255) (hg:Cc ops a g=some true) (hd:Nat.blt d F.m=true) :
 yi P F ops a o ⟨some d,.binOp .and T xo yo yt,ty,pos,af,g⟩ d (.d (.v (.int .u8 (p % D)))):=.bin hx hy (λ_ _ _ h1 h2=>xG.M_ i D h1 h2 h.1 h.2.1 h.2.2.1 h.2.2.2.1 h.2.2.2.2) hg hd
theorem yi.a8D (i:Nat) (D:Int) (hx:z' a xo=some (.d (.v (.int .u64 p)))) (hy:z' a yo=some (.d (.v (.int .u64 q)))) (hD:(2:Int) ^ i=D) (h:(0<=p/\p % D=0/\p<=18446744073709551615)/\0<=q/\q<D/\q<=18446744073709551615) (hg:Cc ops a g=some true) (hd:Nat.blt d F.m=true) :
 yi P F ops a o ⟨some d,.binOp .or T xo yo yt,ty,pos,af,g⟩ d (.d (.v (.int .u64 (p+q)))):=.bin hx hy (λ_ _ _ h1 h2=>xG.Yi i D h1 h2 hD h.1.1 h.1.2.1 h.1.2.2 h.2.1 h.2.2.1 h.2.2.2) hg hd
theorem yi.min2 {ts:Array TypeId}(hx:z' a xo=some (.d (.v (.int k p)))) (hy:z' a yo=some (.d (.v (.int k' q)))) (hd:Nat.blt d F.m=true) :
 yi P F ops a o ⟨some d,.call { callee:=.builtin .min,args:=#[xo,yo],argTypes:=ts },ty,pos,af,none⟩ d (.d (.v (.int k (if q<p then q else p)))):=.run U hd λρ h S L cz=>⟨_,xG.min2 (bR cz hx) (bR cz hy),bh (h:=h)⟩
end
theorem TD (l:yG) (hb:l.length<=1073741824):yq prog 80 [.bs l] (.zZ [.s ((AK l).getD []),.i (if(AK l).isSome then 0 else 20)]):=by
 have rm:Rm:=⟨⟩;have no:AK l=none->yR [.s [],.i 20]=.zZ [.s ((AK l).getD []),.i (if(AK l).isSome then 0 else 20)]:=λh=>by rw [h];rfl
 refine an func80 U ntmps80 U (λe=>?_);refine V ?_;refine Rn kB 4 5 U U ?_;refine Lk (γ:=Nat×yG×Nat×Bool×Bool) [11,12] (λ(i,out,n,fresh,first)=>i<=l.length/\n<9223372036854775808/\out.length<=42*i/\AK l=Em (l.drop i) out n fresh first) (λ(i,_)=>l.length-i) (λ(i,_,n,fresh,first)=>[(4,.row 0),(5,.d (.v (.int .u64 (n:Int)))),(6,.d (.bq fresh)),(7,.d (.bq first)),(13,.d (.i (i:Int)))]) (λ(_,out,_)=>[(0,.row 5 (.bs out))]) (0,[],0,true,true) ⟨by omega,by omega,by simp,U⟩ U ?_;rintro⟨i,out,n,fresh,first⟩ ⟨hi,hn,ho,he⟩;refine Vi (λc=>?_) (λc=>?_)
 ·have yJ:=(l.getD i 0).toNat_lt;have hd:l.drop i=l.getD i 0::l.drop (i+1):=by rw [aL xE];simp [show i<l.length by omega]
  rw [hd,Em] at he;obtain⟨N,hN⟩:∃ N,N=n*128+(l.getD i 0).toNat % 128:=⟨_,U⟩;rw [<- hN] at he;refine Sb ?_;refine Jw [4,5,6,7,11,12,13] [(9,.d (.v (.int .u8 ((l.getD i 0).toNat:Int))))] U ?_;refine Sb ?_;refine Jb 25 [4,5,6,7,9,11,12,13] ((fresh&&decide (((l.getD i 0).toNat:Int)=128))||decide ((72057594037927935:Int)<(n:Int))) U Yj ?_;refine Vi (λg=>?_) (λg=>?_)
  ·refine Vr (no ?_);rw [he,xD];rw [yu,xB,a_,a_];exact g.imp (λh=>⟨h.1,by omega⟩) (λh=>by omega)
  rw [xC (by
   simp only [yu,xB,a_];rintro(⟨rfl,h⟩|h)
   ·rcases g.1 with h2|h2
    ·cases h2
    ·omega
   ·omega)] at he
  have hN2:N<9223372036854775808:=by omega
  refine Sb ?_;refine Js [4,7,9,11,12,13] [(5,.d (.v (.int .u64 (N:Int)))),(6,.d (.bq false))] U ?_ ?_
  ·refine V ?_;refine aI (yi.b02 128 U U ⟨by decide,by decide,by omega,by omega⟩ U U) ?_;refine V ?_;refine aI (yi.a8u 7 128 U U ⟨by decide,by decide,by decide,by omega,by omega⟩ U U) ?_;refine V ?_;refine aI (yi.a8D 7 128 U U yD ⟨⟨by omega,by omega,by omega⟩,by omega,by omega,by omega⟩ U U) ?_;exact m89
  refine Vi (λg2=>?_) (λg2=>?_)
  ·rw [xD xE] at he;refine V ?_;exact⟨(i+1,out,N,false,first),by dsimp only;omega,⟨by omega,by omega,by omega,he⟩,Fg,Gt⟩
  rw [xC xE] at he;cases first with
  |true =>
   rw [xD rfl] at he;have P_:=cG (min (N / 40) 2) 1;have b0W:=cG (N-40*min (N / 40) 2) 1;refine V ?_;refine aI (yi.min2 U U U) ?_;rw [show(if(2:Int)<(N:Int) / 40 then(2:Int) else(N:Int) / 40)=((min (N / 40) 2:Nat):Int) by rw [Nat.min_def];split<;>split<;>omega];refine V ?_;refine Cw U U U U U (cW (least:=1) (n:=min (N / 40) 2) U U xE xE xE) U U ?_;refine V ?_;refine Cw U U U U U (cW (least:=1) (n:=N-40*min (N / 40) 2) xE U xE xE (by simp only [aF,aw,ay];omega)) U U ?_;refine V ?_;exact⟨(i+1,out++CS (min (N / 40) 2) 1++[46]++CS (N-40*min (N / 40) 2) 1,0,true,false),by dsimp only;omega,⟨by omega,by omega,by simp only [aF,aw,ay];omega,he⟩,Fg,Gt⟩
  |false =>
   rw [xC (by simp)] at he;have b0W:=cG N 1;refine V ?_;refine Cw U U U U U (cW (least:=1) (n:=N) U U xE xE (by simp only [aF,aw,ay];omega)) U U ?_;refine V ?_;exact⟨(i+1,out++[46]++CS N 1,0,true,false),by dsimp only;omega,⟨by omega,by omega,by simp only [aF,aw,ay];omega,he⟩,Fg,Gt⟩
 ·have IV:AK l=if(!fresh||first)=true then none else some out:=by rw [he,yw xE,Em]
  refine Vg (λg=>?_) (λg=>?_)
  ·refine Vr (no ?_);rw [IV,g];rfl
  refine Vi (λg2=>?_) (λg2=>?_)
  ·refine Vr (no ?_);rw [IV,g2];simp
  ·refine Pb 0 U ?_;refine Vr ?_;rw [IV,xC (by simp [g,g2])];rfl
end
theorem vb {s:yG}(hs:s.length<=100000000000):yq prog 151 [.s s] (.zZ [.bs ((Ai s).getD []),.i (if(Ai s).isSome then 0 else 20)]):=.mk λh vs hT hd=>by
 obtain⟨v,rfl,h1⟩:=ll hd;rw [cY.1 h1];exact(TF hs).mono λv h' _ ⟨a,c,e,r⟩=>⟨_,U,by rw [e];exact rE ((AU (h:=h')).2 ⟨_,_,U,r⟩) (bh (h:=h'))⟩
theorem qQ {l:yG}(hb:l.length<=1073741824):yq prog 80 [.bs l] (.zZ [.s ((AK l).getD []),.i (if(AK l).isSome then 0 else 20)]):=TD l hb
theorem VM {s:yG}(hs:s.length<=140737488355328):yq prog 253 [.s s] (.b (Aw (λc n=>!decide (c=65533/\n=1)) s 0)):=.mk λh vs hT hd=>by
 obtain⟨v,rfl,h1⟩:=ll hd;rw [cY.1 h1];exact(a0A s h hT hs).d (bh (h:=h))
theorem a3R {s:yG}(hs:s.length<=140737488355328):yq prog 255 [.s s] (.b (Aw (λc _=>decide (c<=127)) s 0)):=.mk λh vs hT hd=>by
 obtain⟨v,rfl,h1⟩:=ll hd;rw [cY.1 h1];exact(a6_ s h hs).d (bh (h:=h))
theorem mr {s:yG}(hs:s.length<=140737488355328):yq prog 254 [.s s] (.b (Aw (λc _=>H' c) s 0)):=.mk λh vs hT hd=>by
 obtain⟨v,rfl,h1⟩:=ll hd;rw [cY.1 h1];exact(qN s h hs).d (bh (h:=h))
instance:Cn prog 151 (type_of% @vb):=⟨@vb⟩
instance:Cn prog 80 (type_of% @qQ):=⟨@qQ⟩
instance:Cn prog 253 (type_of% @VM):=⟨@VM⟩
instance:Cn prog 255 (type_of% @a3R):=⟨@a3R⟩
instance:Cn prog 254 (type_of% @mr):=⟨@mr⟩
section
attribute [local irreducible] Nat.sub
section
variable {P:Program} [Tb P] {F:Fd}{a:LO}{o:LQ}{ops:Array Oper}{d:Nat}{ty T yt:TypeId}{pos:String}{af:Array Edge}{g:Option (Nat×Bool)}{xo yo:Operand}{p q:Int}{k:IntKind}
theorem yi.a4V (D:Int) (hx:z' a xo=some (.d (.v (.int .u8 p)))) (hy:z' a yo=some (.d (.v (.int k q)))) (h:(0<=q/\q<=8)/\(2:Int) ^ q.toNat=D/\0<=p*D/\p*D<=255) (hg:Cc ops a g=some true) (hd:Nat.blt d F.m=true) :
 yi P F ops a o ⟨some d,.binOp .shl T xo yo yt,ty,pos,af,g⟩ d (.d (.v (.int .u8 (p*D)))):=.bin hx hy (λ_ _ _ h1 h2=>xG.a4U D h1 h2 h.1.1 h.1.2 h.2.1 h.2.2.1 h.2.2.2) hg hd
end
instance:Cn prog 256 (type_of% @mq):=⟨@mq⟩
instance:Cn prog 257 (type_of% @oM):=⟨@oM⟩
theorem oJ (t:Int) (l:yG) (hb:l.length<=1073741824):yq prog 161 [.i t,.bs l] (.b (AJ t l)):=by
 have e0:xF l 0=(l.getD 0 0).toNat:=rfl;have b0:=bn l 0;refine an func161 U ntmps161 U (λe=>?_);refine Vi (λt1=>?_) (λt1=>?_)
 ·rw [VJ t1,e0];exact Y
 refine Vi (λt2=>?_) (λt2=>?_)
 ·rw [m6 (.inl t2)];exact Vr U
 refine Vi (λt10=>?_) (λt10=>?_)
 ·rw [m6 (.inr t10)];exact Vr U
 refine Vi (λt3=>?_) (λt3=>?_)
 ·rw [qd t3];refine Sb ?_;refine Jb 56 [1] (decide (l.length=0\/7<xF l 0\/l.length=1/\0<xF l 0)) U Yj ?_;refine Vi (λq=>?_) (λq=>?_)
  ·refine Vr ?_;rw [DM,ah xE];rfl
  obtain⟨M,hM⟩:∃ M:Nat,M=2 ^ xF l 0:=⟨_,U⟩;have hp:1<=2 ^ xF l 0/\2 ^ xF l 0<=128:=⟨Nat.one_le_two_pow,yf (n:=2) yD (show xF l 0<=7 by omega)⟩;rw [<- hM] at hp;have hM2:(2:Int) ^ xF l 0=(M:Int):=by rw [hM];simp
  have e2:((l.length:Int)-1).toNat=l.length-1:=by omega
  have b2:(l.getD (l.length-1) 0).toNat<256:=bn l (l.length-1);refine V ?_;refine EK 61 U (λhc h4=>?_) (λhc h4=>?_)<;>rw [hc]
  ·refine Vr ?_;rw [DM,ae xE];rfl
  refine V ?_;refine bm U (yi.a4V (M:Int) U U ⟨by omega,hM2,by omega,by omega⟩ U U) ?_;refine V ?_;rw [e2];refine bm U (yi.a8u (xF l 0) (M:Int) U U ⟨by rw [hM2,Int.one_mul],hM2,by omega,by omega,by omega⟩ U U) ?_;refine Vr ?_;show D.bq _=D.bq _;refine congrArg D.bq (y7.2 ?_);have e3:xF l (l.length-1)=(l.getD (l.length-1) 0).toNat:=rfl;rw [e3,<- hM,show((l.getD (l.length-1) 0).toNat:Int) % (M:Int)=(((l.getD (l.length-1) 0).toNat % M:Nat):Int) from rfl];omega
 refine Vi (λq=>?_) (λq=>?_)
 ·rw [u6 q];exact Y
 refine Vi (λq=>?_) (λq=>?_)
 ·rw [VI q];refine Vr ?_;cases (AK l).isSome<;>rfl
 refine Vi (λq=>?_) (λq=>?_)
 ·rw [sh q];exact Vr U
 refine Vi (λq=>?_) (λq=>?_)
 ·rw [sf q];exact Vr U
 refine Vi (λq=>?_) (λq=>?_)
 ·rw [se q];exact Vr U
 refine Vi (λq=>?_) (λq=>?_)
 ·rw [sd q];refine Vr ?_;cases DT l<;>rfl
 refine Vi (λq=>?_) (λq=>?_)
 ·rw [sb q];refine Vr ?_;cases BS l<;>rfl
 refine Vr ?_;rw [VK xE];rfl
instance:Cn prog 161 (type_of% @oJ):=⟨@oJ⟩
end
section
attribute [local irreducible] Nat.sub
theorem Jo  [Tb P]{n:y_}{x x':Nat->y_}{a ak:LO}{o:LQ}{c d:Code}(ks:List Nat) (aa:LO) (oo:LQ) (hk:Aa ks a=some ak) (k2:JD P F d n x' (aa++ak) oo) (k1:JD P F c (λa1 o1=>Jq (aa++ak) a1/\I7 oo o1) x a o:=by refine V ?_;exact⟨Fg,Gt⟩):JD P F c (JD P F d n x') x a o :=
 JD.cut k1 (λa1 o1 ⟨hA,hO⟩=>k2.wd hA hO) (λ_ _ _ h=>h)
theorem Fap  [Tb P]{n:y_}{x:Nat->y_}{a:LO}{o:LQ}{ops:Array Oper}{rest:LR}{d d1 d2 e bytes T:Nat}{ty ty1 ty2:TypeId}{pos p1 p2:String}{af f1 f2:Array Edge}{xo yo hi mx:Operand}{k k':IntKind}{j q:Int}{α:Type}(K:Kd α) {l1 l2:List α}
 (hx:z' a xo=some (.d (K.f l1))) (hh:z' a hi=some (.d (.v (.int k j)))) (hm:z' a mx=some (.d (.v (.int k' q)))) (hy:z' ((d1,.any)::a) yo=some (.d (K.f l2))) (hj:j=(l1.length:Int)) (hq:q=(l1.length:Int)) (h0:0<l2.length) (hb:(l1.length+l2.length)*bytes<=140737488355328) (hT:Cy (Tb.ap P) T=some (e,K.sz,bytes)) (hT2:Ig P T=some (e,K.sz)) (D5:Nat.beq d2 d1=false) (GF:Nat.blt 0 bytes=true) (hd:Nat.blt d F.m=true/\Nat.blt d1 F.m=true/\Nat.blt d2 F.m=true)
 (kk:Al P F ops n x rest ((d,.d (K.f (l1++l2)))::(d2,.any)::(d1,.any)::a) o) :
 Al P F ops n x (⟨some d1,.slice T xo none (some hi) (some mx),ty1,p1,f1,none⟩::⟨some d2,.move yo,ty2,p2,f2,none⟩::⟨some d,.call { callee:=.builtin .append,args:=#[.tmp d1,.tmp d2],argTypes:=#[T,T] },ty,pos,af,none⟩::rest) a o:=.mk λρ h S L cz=>by
 have:=K.mono;obtain⟨v,g1,g2⟩:=bv cz hx;obtain⟨a1,c1,rfl,hR1⟩:=K.den.1 g2;refine cX (AB.Zu hT2 g1 (bR cz hh) (bR cz hm) hR1 U hj hq) hd.2.1 (λv ⟨a1',hv,hR⟩=>?_);subst hv;have cz1:=cF (u:=.any) (v:=.slice a1' l1.length l1.length) cz trivial d1;obtain⟨w,g3,g4⟩:=bv cz1 hy;obtain⟨a2,c2,rfl,hR2⟩:=K.den.1 g4;have cz2:=cF (u:=.any) (v:=.slice a2 l2.length c2) cz1 trivial d2;refine aA (aY g3) hd.2.2 ?_;refine JL.PK (R:=K.R) (l:=l1) (l2:=l2) (Tb.UM hT) (by simp [ev,look,D5]) (by simp [ev,look]) hR U U hR2 U h0 hb hd.1 GF (λa' c' Kq hc hn=>?_);refine JL.LZ .here hc U hn (λh' hle hS=>?_);exact kk.k ρ h' _ L (cF (u:=.d (K.f (l1++l2))) (cz2.mono hle) (K.den.2 ⟨_,_,U,hS⟩) d)
theorem tU (l r:yG):yq prog 126 [.bs l,.bs r] (.i (Go.Lib.compareBytes l r)):=.mk λh vs hT hd=>by
 obtain⟨v,w,rfl,h1,h2⟩:=Zf hd;obtain⟨a,cc,rfl,hR⟩:=AU.1 h1;obtain⟨a',cc',rfl,hR'⟩:=AU.1 h2;exact(fy hR hR').d (bh (h:=h))
instance:Cn prog 126 (type_of% @tU):=⟨@tU⟩
theorem Vw  [Tb P]{n:y_}{x:Nat->y_}{a:LO}{o o1:LQ}{c:Code}(k:Nat) {e:OE}{t:Nat}{d:D}(hk:BH o k=some e) (hw:HG e=some (t,d)) (hd:H7 o k=some o1) (kk:JD P F c n x a ((k,.B1 t d)::o1)):JD P F c n x a o:=.mk λρ h S L cz=>by
 obtain rfl:=eZ hd;obtain⟨y,L2,hD,hE,hr⟩:=cz.o.get hk;obtain⟨vs,rfl,h1⟩:=jP hw hE;exact J.Hx (.yY (ρ.b k) t vs::L2) (.cons hD .all) (kk.k ρ h S _ ⟨cz.t,cz.s,_,L2,U,⟨vs,U,h1⟩,hr⟩)
def b1D (x:Nd) (d0 deep:Int) (v d1:D):Prop:=∃ (b:yG) (dd:Int) (bad:Bool) (B:D),v=.bs b/\d1=.st [.i dd,B]/\(B=.b bad\/B=.v (.bool bad))/\(bad=true->x.put=none)/\(bad=false->x.put=some b/\dd=max d0 (deep+x.rk-1))
def b1E (x:Nd) (d0 deep:Int) (v d1:D):Prop:=∃ (b:yG) (dd:Int) (bad:Bool),v=.bs b/\d1=.st [.i dd,.b bad]/\(bad=true->x.put=none)/\(bad=false->x.put=some b/\dd=max d0 (deep+x.rk-1))
theorem X7:∀ (n:Nat) (x:Nd) (d0 deep:Int),x.rk<=n->x.sz<=1073741824->0<=deep->deep+x.rk<=1099511627776->Jx prog 79 132 [] (.st [.i d0,.b false]) [.nd x,.i deep] (b1E x d0 deep):=by
 intro n
 induction n with
 |zero=>intro x d0 deep hx;cases x;simp [Nd.rk] at hx
 |succ n ih =>
 intro x d0 deep hx CP hd0 hd1;have hx':Nd.CO x.kids+1<=n+1/\1+x.bytes.length+Nd.yP x.kids<=1073741824/\deep+(Nd.CO x.kids+1:Nat)<=1099511627776:=by
  cases x;exact⟨hx,CP,hd1⟩
 have hrk:(x.rk:Int)=Nd.CO x.kids+1:=by cases x;rfl
 have hpu:EU x.cls x.tag x.cons x.bytes x.kids=false->x.put=none:=λh=>by cases x;unfold Nd.put;exact xC (λh2=>absurd (h2.symm.trans h) yD)
 have hpo:EU x.cls x.tag x.cons x.bytes x.kids=true->x.put=(Nd.B0 (decide (x.cls=0)&&decide (x.tag=17)) x.kids none x.bytes).map (λb=>BM x.cls x.tag x.cons b.length++b):=λh=>by cases x;unfold Nd.put;exact xD h
 have hkl:=bD x.kids;have hrz:=Nd.Hu x.kids;refine Jx.imp (R:=b1D x d0 deep) ?_ (λv d1 ⟨b,dd,bad,B,e1,e2,e3,e4⟩=>⟨.st [.i dd,.b bad],⟨b,dd,bad,e1,U,e4⟩,λh w k=>?_⟩)
 rotate_left
 ·subst e2;rcases e3 with rfl|rfl
  ·exact k
  ·obtain⟨cs,e,k⟩:=cA.1 k;refine(cA (h:=h)).2 ⟨cs,e,?_⟩;unfold yp at k |-;obtain⟨v1,t1,q1,q2,q3,k⟩:=k;refine⟨v1,t1,q1,q2,q3,?_⟩;unfold yp at k |-;obtain⟨v2,t2,p1,p2,p3,k⟩:=k;exact⟨v2,t2,p1,p2,cC.2 (cY.1 p3),k⟩
 refine Jx.intro func79 U ntmps79 U (λe b=>?_);refine S1 ?_;refine Sb ?_;refine Jo [0,2,4] [] [(2,.B1 33 (.nd x)),(1,.Fo 0 b),(0,.var 132 [.d (.i (max d0 deep)),.d (.b false)])] U ?_;refine Sb ?_;refine Jb 62 [0,2,4] (!EU x.cls x.tag x.cons x.bytes x.kids) U ?_ ?_
 ·unfold EU;exact Yj
 refine Vi (λg=>?_) (λg=>?_)
 ·refine V ?_;exact Ev 1 U U U U U ⟨[],_,true,_,U,U,.inr U,λ_=>hpu (by simpa using g),λh=>by cases h⟩
 have zt:EU x.cls x.tag x.cons x.bytes x.kids=true:=by simpa using g
 have hmm:=a1R zt;have hpo:=hpo zt;refine V ?_;refine Vw 0 U U U ?_;refine Lk (γ:=Nat×yG×yG×Int) [0,2,4,69,70] (λ(i,IK,lb,d)=>i<=x.kids.length/\lb.length<=100000000000/\IK.length<=x.bytes.length+8*Nd.yP (x.kids.take i)/\d=max d0 (deep+Nd.CO (x.kids.take i))/\Nd.B0 (decide (x.cls=0)&&decide (x.tag=17)) x.kids none x.bytes=Nd.B0 (decide (x.cls=0)&&decide (x.tag=17)) (x.kids.drop i) (if i=0 then none else some lb) IK) (λ(i,_)=>x.kids.length-i) (λ(i,IK,lb,_)=>[(7,.d (.bs IK)),(8,.d (.bs lb)),(71,.d (.i (i:Int)))]) (λ(_,_,_,d)=>[(2,.B1 33 (.nd x)),(1,.Fo 0 b),(0,.B1 132 (.st [.i d,.b false]))]) (0,x.bytes,[],max d0 deep) ⟨by omega,by simp,by simp [Nd.yP],by simp [Nd.CO],U⟩ U ?_;rintro⟨i,IK,lb,d⟩ ⟨hi,Mi,hil,hd,hp⟩;have DW:=Nd.Gv x.kids i;refine Vi (λq=>?_) (λq=>?_)
 ·have Bx:i<x.kids.length:=by omega
  have e0:x.kids.getD i (.mk 0 0 false [] [])=x.kids[i]:=by simp [Bx]
  have h1:=Nd.La (ax Bx);have h2:=bX (ax Bx);have hrt:=Nd.Gz x.kids i Bx;have hrl:=Nd.Hv x.kids i;have hzt:=Nd.MQ x.kids i Bx;have Rl:=Nd.Lb (decide (x.cls=0)&&decide (x.tag=17)) x.kids i (if i=0 then none else some lb) IK Bx;have Nx:=λkb=>dA _ x.kids[i] kb (aB _);rw [<- e0] at h1 h2 hrt hzt Rl Nx;have ck:=ih (x.kids.getD i (.mk 0 0 false [] [])) d (deep+1) xE xE xE xE;refine Sb ?_;refine Jo [0,2,4,7,8,69,70,71] [(9,.d (.i (i:Int))),(10,.own 3 0)] [(3,.B1 33 (.nd (x.kids.getD i (.mk 0 0 false [] [])))),(2,.B1 33 (.nd x)),(1,.Fo 0 b),(0,.B1 132 (.st [.i d,.b false]))] U ?_;refine Sb ?_;refine Jm (γ:=yG×Int×Bool) (λ(kb,_,_)=>[(0,.own 0 0),(2,.d (.i deep)),(4,.own 2 0),(7,.d (.bs IK)),(8,.d (.bs lb)),(9,.d (.i (i:Int))),(11,.d (.bs kb)),(69,.d (.AX x.kids)),(70,.d (.i (x.kids.length:Int))),(71,.d (.i (i:Int)))]) (λ(_,dd,bad)=>[(0,.B1 132 (.st [.i dd,.b bad])),(2,.B1 33 (.nd x)),(1,.Fo 0 b)]) (λ(kb,dd,bad)=>(bad=true->(x.kids.getD i (.mk 0 0 false [] [])).put=none)/\(bad=false->(x.kids.getD i (.mk 0 0 false [] [])).put=some kb/\dd=max d (deep+1+(x.kids.getD i (.mk 0 0 false [] [])).rk-1))) ?_ ?_
  ·refine V ?_;refine Cp (os1:=[]) U U U U U U U ck U ?_;rintro _ _ ⟨kb,dd,bad,rfl,rfl,H3,Ku⟩;refine V ?_;exact⟨(kb,dd,bad),⟨H3,Ku⟩,Fg,Gt⟩
  rintro⟨kb,dd,bad⟩ ⟨H3,Ku⟩;refine Sb ?_;refine Jb 104 [0,2,4,7,8,11,69,70,71] (bad||((decide (x.cls=0)&&decide (x.tag=17))&&(decide ((0:Int)<i)&&decide (0<Go.Lib.compareBytes lb kb)))) U Yj ?_;refine Vi (λc=>?_) (λc=>?_)
  ·refine V ?_;refine Ev 1 U U U U U ⟨[],_,true,_,U,U,.inr U,λ_=>?_,λh=>by cases h⟩;rw [hpo,hp,Rl];cases bad with
   |true=>rw [H3 rfl];rfl
   |false =>
    rw [(Ku U).1];show Option.map _ (if _ then _ else _)=_;rw [xD];rfl;rw [lX];simpa using c
  ·have Ir:bad=false:=by
    cases bad with
    |false=>rfl
    |true=>simp at c
   obtain⟨hkb,hdd⟩:=Ku Ir;have b0Q:=Nx kb hkb;refine V ?_;refine Fap kB U U U U U U xE xE U cq U U ⟨U,U,U⟩ ?_;subst Ir;refine V ?_;exact⟨(i+1,IK++kb,kb,dd),by dsimp only;omega,⟨by omega,by omega,by rw [aF,hzt];omega,by rw [hrt];omega,by
    rw [hp,Rl,hkb];show(if _ then _ else _)=_;rw [xC,xC xE];rw [lX];intro hh;simp only [xB,a_] at hh;rcases c.2 with (h|h)|h|h
    ·exact h hh.1.1
    ·exact h hh.1.2
    ·exact h hh.2.1
    ·exact h hh.2.2⟩,Fg,Gt⟩
 ·have hhl:=i_ x.cls x.tag x.cons IK.length;refine V ?_;refine Crw U U (a6l x IK.length hmm.1 hmm.2 xE) U ?_;refine V ?_;refine Ev 1 U U U U U ⟨_,d,false,_,U,U,.inl U,(λh=>by cases h),λ_=>⟨?_,?_⟩⟩
  ·rw [hpo,hp,yw xE];rfl
  ·rw [hd,aD xE,hrk];omega
end
theorem uV (n:Nd) (hz:n.sz<=1073741824):yq prog 26 [.nd n] (.b n.put.isSome):=by
 have hrk:=Nd.HN _ n (aB _);have c:=X7 _ n 0 1 (aB _) hz xE xE;refine an func26 U ntmps26 U (λe=>?_);refine V ?_;refine Cp (os1:=[]) U U U U U U U c U ?_;rintro _ _ ⟨b,dd,bad,rfl,rfl,h1,h2⟩;refine Vr ?_;cases bad with
 |true=>rw [h1 rfl];rfl
 |false=>rw [(h2 U).1];rfl
theorem X5 (n:Nd) (hz:n.sz<=1073741824):yq prog 49 [.nd n] (.zZ [.bs n.wr.1,.i n.wr.2]):=by
 have hrk:=Nd.HN _ n (aB _);have hr1:1<=n.rk:=by cases n;simp [Nd.rk]
 have c:=X7 _ n 0 1 (aB _) hz xE xE;refine an func49 U ntmps49 U (λe=>?_);refine V ?_;refine Cp (os1:=[]) U U U U U U U c U ?_;rintro _ _ ⟨b,dd,bad,rfl,rfl,h1,h2⟩;refine Vi (λq=>?_) (λq=>?_)
 ·refine Vr ?_;unfold Nd.wr;rw [h1 q];rfl
 obtain⟨h3,h4⟩:=h2 (by simpa using q);refine Vi (λq2=>?_) (λq2=>?_)
 ·refine Vr ?_;unfold Nd.wr;rw [h3];simp only;rw [xD xE];rfl
 refine Vi (λq3=>?_) (λq3=>?_)
 ·refine Vr ?_;unfold Nd.wr;rw [h3];simp only;rw [xC xE,xD xE];rfl
 ·refine Vr ?_;unfold Nd.wr;rw [h3];simp only;rw [xC xE,xC xE];rfl
theorem Mt.pure  [Tb P] {Fi:Nat}{ds:List D}{d:D}{u:Value}{vs:LV}(c:yq P Fi ds d) (hT:Tb.T P h) (hd:yT ds h vs) (hu:∀ h' v,Den d h' v->v=u):Pure P Fi vs h u :=
 Pure.of (Fn.mono (c.fn h vs hT hd) λ_ h' Lo _ ⟨v,e,e1,d',e2,e3⟩=>⟨v,e,(⟨hu h' v (e2 ▸ e3),e1⟩:v=u/\Lo=[])⟩) λ_ _ _ k=>k.1
theorem dT2 {d e:D}{v w:Value}(h1:Den d h v) (h2:Den e h w):yT [d,e] h [v,w]:=by
 unfold yT;exact⟨_,_,U,h1,by unfold yT;exact⟨_,_,U,h2,by unfold yT;rfl⟩⟩
theorem dT1 {d:D}{v:Value}(h1:Den d h v):yT [d] h [v]:=by
 unfold yT;exact⟨_,_,U,h1,by unfold yT;rfl⟩
variable{l:LB}
theorem VH {t:Int}{a:OA}{c:Nat}(hl:A3 DJ 1 h a c l) (hT:D_ h) (hb:l.length<=1073741824):Pure prog 161 [.int .i64 t,.slice a l.length c] h (.bool (AJ t l)) :=
 (oJ t l hb).pure hT (dT2 (bh (h:=h)) (AU.2 ⟨_,_,U,hl⟩)) λ_ _ k=>cC.1 k
variable{x:Nd}
theorem a1E {cs:LV}(r:B9 h cs x) (hT:D_ h):Pure prog 159 [.agg cs.toArray] h (.bool (B6 x.cls x.tag x.cons)) :=
 (OM x).pure hT (dT1 (fw.2 ⟨_,U,r⟩)) λ_ _ k=>cC.1 k
theorem WR {cs:LV}(r:B9 h cs x) (hT:D_ h) (CP:x.sz<=1073741824):Pure prog 26 [.agg cs.toArray] h (.bool x.put.isSome) :=
 (uV x CP).pure hT (dT1 (fw.2 ⟨_,U,r⟩)) λ_ _ k=>cC.1 k
theorem a5p (n:Nat) (x:Nd) (cs:LV) (h:Part) (bw:Nat) (d0 deep:Int) (hn:x.rk<=n) (r:B9 h cs x) (hT:D_ h) (hz:x.sz<=1073741824) (h0:0<=deep) (h1:deep+x.rk<=1099511627776) :
 Fn prog 79 [.pointer (some ⟨bw,0,none⟩),.agg cs.toArray,.int .i64 deep] h [.yY bw 132 [.int .i64 d0,.bool false]] (Cb (b1C x bw d0 deep)) :=
 Fn.mono ((X7 n x d0 deep hn hz h0 h1).fn h bw [.int .i64 d0,.bool false] [] _ hT (by unfold yT;rfl) (cA.2 ⟨_,U,.c U bh (.c U (cC.2 U) .n)⟩) (dT2 (fw.2 ⟨_,U,r⟩) (bh (h:=h)))) λ_ h' Lo _ ⟨v,e,d,d1,ws,⟨b,dd,bad,e1,e2,e3,e4⟩,k1,k2,e5⟩=>by
  subst e1 e2 e5;obtain⟨a,c,rfl,k3⟩:=AU.1 k1;obtain⟨us,e6,k4⟩:=cA.1 k2;have e7:ws=us:=by injection e6 with e6;simpa using congrArg Array.toList e6
  subst e7;unfold yp at k4;obtain⟨u1,t1,rfl,_,q1,k4⟩:=k4;unfold yp at k4;obtain⟨u2,t2,rfl,_,q2,k4⟩:=k4;unfold yp at k4;rw [cY.1 q1,cC.1 q2,k4];exact⟨_,e,b,a,c,dd,bad,U,k3,U,e3,e4⟩
theorem Dn {p:Prop}(u:p:=by first|rfl|exact B9.M' (by assumption)):p:=u
theorem ly (u:p:=by first|rfl|assumption|exact B9.M' zL):p:=u
theorem lx (u:p:=by first|rfl|exact B9.a0g zL):p:=u
theorem rY:Mq prog 31=some (33,5,72):=by kernel_rfl
theorem a7b:yH prog 119=true:=by kernel_rfl
theorem PD:yH prog 187=true:=by kernel_rfl
theorem n8:OO prog 33=some ([.int .i64 0,.int .i64 0,.bool false,.slice none 0 0,.slice none 0 0],[(0,1),(1,1),(2,1),(3,1),(4,1)]):=by kernel_rfl
theorem iQ:CH prog 33=some [.int .i64 0,.int .i64 0,.bool false,.slice none 0 0,.slice none 0 0]:=by kernel_rfl
theorem a1C {t:Int}{a:OA}{c:Nat}(hl:A3 DJ 1 h a c l):F1 prog 119 [.int .i64 t,.slice a l.length c] h (λv h'=>∃ cs,v=.agg (List.toArray cs)/\B9 h' cs (.mk 0 t false l [])):=by
 have hb:=hl.GX;refine aQ func119 U ntmps119 U (λe he=>?_);refine ba [(0,_),(1,_)] y9 ?_;refine Sr (bp iQ U (λb1=>?_));refine aj (Sr (Ru 2 U (dh 5 1 ?_)));refine JL.append tV U U (bQ (R:=DJ)) U zL U zW LD U U (λa2 c2 Mv hC2 hN2=>?_);obtain rfl:=hC2.u8;refine JL.LZ (R:=DJ) (l:=l) zW cJ U LD (λh3 FU hP3=>?_)
 replace hl:=hl.mono FU
 refine aA (bi (cs:=[.int .i64 0,_,.bool false,_,.slice none 0 0]) n8 U U) U ?_;refine aZ ci U U zW lx ly Dn ?_;exact Nk [4] U (bM (bL U U ci zV Dn) ⟨_,U,B9.of zL bA⟩)
def zU (n:Int):Nat->LB
 |0=>[]
 |k+1=>UInt8.ofNat ((n / 256 ^ k) % 256).toNat::zU n k
def FK:LB->LB
 |[]=>[]
 |x::r=>if AY (x::r) then x::r else FK r
def B2 (n:Int):LB:=FK (zU n 8)
theorem Th (n:Int) (j:Nat) (e:Int) (he:e=8*(j:Int)):n / 2 ^ e.toNat=n / 256 ^ j:=by
 subst he;have h1:(8*(j:Int)).toNat=8*j:=by omega
 have h2:(256:Int) ^ j=2 ^ (8*j):=by rw [Int.pow_mul];rfl
 rw [h1,h2]
theorem xG.a0E {f:Fr}{S:AH}{L:LE}{ty:TypeId}{x:Operand}{p:Int}{src dst:TypeId}{k:IntKind}(hc:Bz f.P src dst=some .u8) (hx:ev S x=some (.int k p)):xG f S h L (.convert src dst x) ty (.int .u8 ((UInt8.ofNat (p % 256).toNat).toNat:Int)):=by
 have:=cB (f:=f) (h:=h) (L:=L) (ty:=ty) hc hx;have e:IntKind.u8.wrap p=((UInt8.ofNat (p % 256).toNat).toNat:Int):=by rw [IntKind.wrap_u8];simp;omega
 rwa [e] at this
theorem rg (h:AY l=false) (h0:1<=l.length):2<=l.length:=by
 unfold AY at h;rw [xC xE] at h;split at h
 ·cases h
 ·omega
theorem m_ (h:AY l=false):FK l=FK (l.drop 1):=by
 cases l with
 |nil=>rfl
 |cons x r=>simp only [FK];rw [xC (by rw [h];decide)];rfl
theorem gP (h:AY l=true):FK l=l:=by
 cases l with
 |nil=>rfl
 |cons x r=>simp only [FK];rw [xD h]
theorem d8 (n:Int) (k:Nat):(zU n k).length=k:=by
 induction k with
 |zero=>rfl
 |succ k ih=>simp [zU,ih]
section
attribute [local irreducible] Nat.sub
section
variable {P:Program} [Tb P] {F:Fd}{a:LO}{o:LQ}{ops:Array Oper}{d:Nat}{ty:TypeId}{pos:String}{af:Array Edge}{g:Option (Nat×Bool)}{xo:Operand}{p:Int}{k:IntKind}{src dst:TypeId}
theorem yi.a9h (hx:z' a xo=some (.d (.v (.int k p)))) (hc:Bz P src dst=some .u8) (hg:Cc ops a g=some true) (hd:Nat.blt d F.m=true) :
 yi P F ops a o ⟨some d,.convert src dst xo,ty,pos,af,g⟩ d (.d (.v (.int .u8 ((UInt8.ofNat (p % 256).toNat).toNat:Int)))):=.run hg hd λρ h S L cz=>⟨_,xG.a0E hc (bR cz hx),bh (h:=h)⟩
end
theorem OJ (t:Int) (l:yG) (hl:l.length<=140737488355328):yq prog 119 [.i t,.bs l] (.nd (.mk 0 t false l [])):=by
 exact an func119 U ntmps119 U (λe=>Y)
instance:Cn prog 119 (type_of% @OJ):=⟨@OJ⟩
theorem a8G (n:Int):yq prog 120 [.i n] (.nd (.mk 0 2 false (B2 n) [])):=by
 have rm:Rm:=⟨⟩;refine an func120 U ntmps120 U (λe=>?_);refine V ?_;refine Rn kB 3 5 U U ?_;refine Lk (γ:=Nat×yG) [0,2] (λ(j,out)=>j<=8/\out.length=8-j/\zU n 8=out++zU n j) (λ(j,_)=>j) (λ(j,_)=>[(3,.row 1),(4,.d (.i ((j:Int)-1)))]) (λ(_,out)=>[(1,.row 5 (.bs out)),(0,.var 33 [.d (.i 0),.d (.i 0),.d (.b false),.d (.v (.slice none 0 0)),.d (.v (.slice none 0 0))])]) (8,[]) ⟨by omega,U,U⟩ U ?_;rintro⟨j,out⟩ ⟨hj,hol,he⟩;refine Vi (λq=>?_) (λq=>?_)
 ·obtain⟨i,rfl⟩:∃ i,j=i+1:=⟨j-1,by omega⟩;refine V ?_;refine aI (yi.a4T U U ⟨by omega,show _<=(64:Int) by omega⟩ U U) ?_;rw [Th n i _ xE];refine aI (yi.a9h U cq U U) ?_;refine V ?_;exact⟨(i,out++[UInt8.ofNat (n / 256 ^ i % 256).toNat]),by dsimp only;omega,⟨by omega,by simp only [aF,aw,ay];omega,by rw [he,zU,xW];rfl⟩,Fg,Gt⟩
 have P8:j=0:=by omega
 subst P8;have IV:out=zU n 8:=by rw [he];simp [zU]
 refine Pb 1 U ?_;refine V ?_;refine Lk (γ:=yG) [2] (λl=>1<=l.length/\l.length<=8/\B2 n=FK l) (λl=>l.length) (λl=>[(3,.d (.bs l))]) (λ_=>[(0,.var 33 [.d (.i 0),.d (.i 0),.d (.b false),.d (.v (.slice none 0 0)),.d (.v (.slice none 0 0))])]) out ⟨by omega,by omega,by rw [IV];rfl⟩ U ?_;rintro l ⟨GU,hl8,hs⟩;refine Vi (λq2=>?_) (λq2=>?_)
 ·have Mi:AY l=false:=by simpa using q2
  have Lg:=rg Mi GU;have hsd:=m_ Mi;refine V ?_;exact⟨l.drop 1,by simp;omega,⟨by simp;omega,by simp;omega,by rw [hs,hsd]⟩,Fg,Gt⟩
 ·have hi9:B2 n=l:=by rw [hs,gP (by simpa using q2)]
  refine Vr ?_;rw [hi9];rfl
end
section
attribute [local irreducible] Nat.sub
theorem US.toD  [Tb P] {Fi e:Nat}{α:Type}{K:Kd α}{ds:List D}{l:List α}(c:US P Fi e K ds l):yq P Fi ds (K.f l):=.mk λh vs hT hd w hw=>by
 have:=K.mono;refine(c.fn h vs hT hd w hw).mono λe w' ⟨h',Lo,⟨v,he,a',c',Kq,e1,e2,e3,e4⟩,ok⟩=>?_;subst e2;obtain⟨h2,h3,h4,h5⟩:=ok.GR e3 U e4;exact⟨h2,[],⟨v,he,U,_,U,by rw [e1];exact K.den.2 ⟨_,_,U,h4⟩⟩,h5⟩
theorem Xo:∀ (n:Nat) (ks:LN),Nd.CO ks=n->Nd.yP ks<=1099511627776->US prog 187 33 kN [.AX ks] ks:=by
 intro n
 induction n using Nat.strongRecOn with
 |_ n ih =>
 intro ks hn hz;have hkl:=bD ks;refine US.intro func187 U ntmps187 U (λe=>?_);refine V ?_;refine Rn kN 3 33 U U ?_;refine Lk (γ:=Nat) [6,7] (λi=>i<=ks.length) (λi=>ks.length-i) (λi=>[(3,.row 0),(8,.d (.i (i:Int)))]) (λi=>[(0,.row 33 (.AX (ks.take i)))]) 0 xE U ?_;intro i hi;refine Vi (λq=>?_) (λq=>?_)
 ·have Bx:i<ks.length:=by omega
  have e0:ks.getD i (.mk 0 0 false [] [])=ks[i]:=by simp [Bx]
  have h1:=Nd.La (ax Bx);have h2:=bX (ax Bx);rw [<- e0] at h1 h2;have htl:(ks.take i).length<=ks.length:=by rw [aS];omega
  have hke:ks.take i++[ks.getD i (.mk 0 0 false [] [])]=ks.take (i+1):=by rw [e0,ai Bx]
  have hxx:=(λx:Nd=>by cases x;exact⟨Nat.lt_succ_self _,aB _⟩:∀ x:Nd,Nd.CO x.kids<x.rk/\1+x.bytes.length+Nd.yP x.kids<=x.sz) (ks.getD i (.mk 0 0 false [] []));have ck:=ih _ xE (ks.getD i (.mk 0 0 false [] [])).kids U xE;refine V ?_;refine Crw U U ck U ?_;refine V ?_;refine Pl 2 U ?_;refine V ?_;rw [show kN.f (ks.take i++[Nd.mk (ks.getD i (.mk 0 0 false [] [])).cls (ks.getD i (.mk 0 0 false [] [])).tag (ks.getD i (.mk 0 0 false [] [])).cons (ks.getD i (.mk 0 0 false [] [])).bytes (ks.getD i (.mk 0 0 false [] [])).kids])=.AX (ks.take (i+1)) by rw [<- hke];cases ks.getD i (.mk 0 0 false [] []);rfl];exact⟨i+1,by omega,by omega,Fg,Gt⟩
 ·refine V ?_;refine RtW U U U ?_;exact aD xE
theorem a43 {d:D}{v:Value}(k:Den d h v):yT [d] h [v]:=by
 unfold yT;exact⟨v,[],U,k,by unfold yT;rfl⟩
theorem a3H {l:LN}(hz:Nd.yP l<=1099511627776):yq prog 187 [.AX l] (.AX l):=(Xo _ l U hz).toD
theorem QH {l:LN}{a:OA}{c:Nat}(hR:A3 B9 5 h a c l) (hT:D_ h) (hz:Nd.yP l<=1099511627776):F1 prog 187 [.slice a l.length c] h (λv h'=>∃ a' c',v=.slice a' l.length c'/\A3 B9 5 h' a' c' l) :=
 ((a3H hz).fn h [.slice a l.length c] hT (a43 (dy.2 ⟨_,_,U,hR⟩))).mono λv h' _ ⟨_,e,k⟩=>by
  subst e;exact dy.1 k
theorem a6M (c t:Int) (l:LN) (hz:Nd.yP l<=1099511627776):yq prog 118 [.i c,.i t,.AX l] (.nd (.mk c t true [] l)):=by
 refine an func118 U ntmps118 U (λe=>?_);refine V ?_;refine Crw U U (Xo _ l U hz) U ?_;refine Pl 1 U ?_;exact Vr U
end
theorem jG {c t:Int}{l:LN}(hz:Nd.yP l<=1099511627776):yq prog 118 [.i c,.i t,.AX l] (.nd (.mk c t true [] l)):=a6M c t l hz
theorem uU {t:Int}{l:LB}:yq prog 119 [.i t,.bs l] (.nd (.mk 0 t false l [])):=.mk λh vs hT hd=>by
 obtain⟨v,w,rfl,h1,h2⟩:=Zf hd;obtain⟨a,cc,rfl,hR⟩:=AU.1 h2;exact(OJ t l hR.GX).fn h _ hT hd
theorem Qo {n:Nd}(hz:n.sz<=1073741824):yq prog 26 [.nd n] (.b n.put.isSome):=uV n hz
instance:Cn prog 118 (type_of% @jG):=⟨@jG⟩
instance:Cn prog 119 (type_of% @uU):=⟨@uU⟩
instance:Cn prog 26 (type_of% @Qo):=⟨@Qo⟩
abbrev DU:Nd:=.mk 0 0 false [] []
def xR (n:Nd) (l m:Int):Bool:=decide (n.cls=0)&&decide (n.tag=16)&&n.cons&&decide (l<=n.kids.length)&&decide ((n.kids.length:Int)<=m)
instance (priority:=high) (n:Nd) (l m:Int):Sp (xR n l m) (xR n l m=true/\n.cls=0/\n.tag=16/\n.cons=true/\l<=n.kids.length/\(n.kids.length:Int)<=m) (xR n l m=false):=⟨λh=>⟨h,by simpa [xR,and_assoc] using h⟩,id⟩
theorem Ri (n:Nd) (l m:Int):yq prog 170 [.nd n,.i l,.i m] (.b (xR n l m)):=by
 unfold xR;exact an func170 U ntmps170 U (λe=>Z)
instance:Cn prog 170 (type_of% @Ri):=⟨@Ri⟩
def Dq (n:Nd) (t:Int):Bool:=decide (n.cls=0)&&decide (n.tag=t)&&n.put.isSome
instance (priority:=high) (n:Nd) (t:Int):Sp (Dq n t) (Dq n t=true/\n.cls=0/\n.tag=t/\n.put.isSome=true) (Dq n t=false):=⟨λh=>⟨h,by simpa [Dq,and_assoc] using h⟩,id⟩
theorem eO {n:Nd}{t:Int}(h:Dq n t=true) (hm:B6 0 t true=false):n.cons=false/\n.kids=[]/\AJ t n.bytes=true:=by
 simp only [Dq,xB,a_] at h;obtain⟨⟨h1,h2⟩,h3⟩:=h;cases n with
 |mk c tt k b l =>
  simp only [Nd.cls,Nd.tag,Nd.cons,Nd.kids,Nd.bytes] at *;subst h1 h2;have zt:EU 0 tt k b l=true:=by
   simp only [Nd.put] at h3;split at h3
   ·assumption
   ·cases h3
  unfold EU at zt;simp only [xB] at zt;cases k with
  |true=>rw [hm] at zt;simp at zt
  |false=>simp at zt |-;exact⟨zt.2.1,zt.2.2⟩
instance (priority:=high+1) (n:Nd):Sp (Dq n 1) (Dq n 1=true/\n.bytes.length=1) (Dq n 1=false):=⟨λh=>⟨h,by have:=(eO h yD).2.2;unfold AJ at this;simp at this;omega⟩,id⟩
instance (priority:=high+1) (n:Nd):Sp (Dq n 3) (Dq n 3=true/\0<n.bytes.length) (Dq n 3=false):=⟨λh=>⟨h,by
 have h3:=(eO h yD).2.2;unfold AJ DM at h3;rw [xC yD,xC yD,xD rfl] at h3;have:=(xV h3).1;have h0:n.bytes.length≠0:=λe=>this (.inl e);omega⟩,id⟩
theorem a8F (n:Nd) (t:Int) (hz:n.sz<=1073741824):yq prog 171 [.nd n,.i t] (.b (Dq n t)):=by
 unfold Dq;exact an func171 U ntmps171 U (λe=>Z)
instance:Cn prog 171 (type_of% @a8F):=⟨@a8F⟩
def Ay (s:yG):Nd:=.mk 0 6 false ((Ai s).getD []) []
theorem a3J (s:yG) (hs:s.length<=50000000000):yq prog 248 [.s s] (.zZ [.nd (Ay s),.b (Ai s).isSome]):=by
 unfold Ay;exact an func248 U ntmps248 U (λe=>Z)
instance:Cn prog 248 (type_of% @a3J):=⟨@a3J⟩
theorem iw:∀ (s c:yG) (l:List Nat),zj s c=some l->l.length<=s.length+1
 |[],c,l,h=>by
  unfold zj at h;cases hn:BT c with
  |none=>rw [hn] at h;cases h
  |some v=>rw [hn] at h;cases h;simp
 |x::r,c,l,h=>by
  unfold zj at h;split at h
  ·split at h
   ·cases h
   ·rename_i n hn;cases hr:zj r [] with
    |none=>rw [hr] at h;cases h
    |some l'=>rw [hr] at h;cases h;have:=iw r [] l' hr;simp;omega
  ·have:=iw r _ l h;simp;omega
theorem Xz (s:yG):((Ai s).getD []).length<=11*s.length+22:=by
 unfold Ai;split
 ·simp
 ·rename_i l hl;have h1:=iw s [] l hl;split
  ·have h2:=Z_ ((40*l.getD 0 0+l.getD 1 0)::l.drop 2);simp only [zw,aw,aM] at h2 |-
   omega
  ·simp
theorem dD (s:yG):(Ay s).sz<=11*s.length+23:=by
 have:=Xz s;simp only [Ay,Nd.sz,Nd.yP];omega
theorem wI (l:LN) (hz:Nd.yP l<=1099511627776):yq prog 218 [.AX l] (.nd (.mk 0 16 true [] l)):=by
 exact an func218 U ntmps218 U (λe=>Z)
instance:Cn prog 218 (type_of% @wI):=⟨@wI⟩
def Gk (h:Int):yG:=if h=256 then [49,46,50,46,56,52,48,46,49,49,51,53,52,57,46,49,46,49,46,49,49] else if h=384 then [49,46,50,46,56,52,48,46,49,49,51,53,52,57,46,49,46,49,46,49,50] else if h=512 then [49,46,50,46,56,52,48,46,49,49,51,53,52,57,46,49,46,49,46,49,51] else []
theorem wt (h:Int):yq prog 261 [.i h] (.s (Gk h)):=by
 unfold Gk;exact an func261 U ntmps261 U (λe=>Z)
instance:Cn prog 261 (type_of% @wt):=⟨@wt⟩
theorem wu (h:Int):(Gk h).length<=21:=by unfold Gk;split<;>(try split)<;>(try split)<;>simp
def CE (h:Int):Nd:=if(Ai (Gk h)).isSome then .mk 0 16 true [] [Ay (Gk h),.mk 0 5 false [] []] else DU
theorem NR (h:Int):yq prog 220 [.i h] (.nd (CE h)):=by
 have:=wu h;have:=dD (Gk h);unfold CE;exact an func220 U ntmps220 U (λe=>Z)
instance:Cn prog 220 (type_of% @NR):=⟨@NR⟩
def zG (n:Nd):yG×Bool:=if Dq n 6 then((AK n.bytes).getD [],(AK n.bytes).isSome) else([],false)
theorem bc (n:Nd):n.bytes.length<n.sz:=by cases n;simp only [Nd.bytes,Nd.sz];omega
theorem sT (n:Nd) (hz:n.sz<=1073741824):yq prog 260 [.nd n] (.zZ [.s (zG n).1,.b (zG n).2]):=by
 have:=bc n;unfold zG;exact an func260 U ntmps260 U (λe=>Z)
instance:Cn prog 260 (type_of% @sT):=⟨@sT⟩
theorem PG (b:yG) (hb:b.length<=1000000000):yq prog 221 [.bs b] (.nd (.mk 0 3 false (0::b) [])):=by
 exact an func221 U ntmps221 U (λe=>Z)
instance:Cn prog 221 (type_of% @PG):=⟨@PG⟩
def Ax (a:At):Bool:=if(Ai a.zJ).isSome&&decide (a.text.length<=200) then(if a.kind=12 then Aw (λc n=>!decide (c=65533/\n=1)) a.text 0 else if a.kind=19 then Aw (λc _=>H' c) a.text 0 else if a.kind=22 then Aw (λc _=>decide (c<=127)) a.text 0 else false) else false
theorem mh (a:At) (h1:a.zJ.length<=50000000000):yq prog 247 [.st (At.enc a)] (.b (Ax a)):=by
 unfold Ax;exact an func247 U ntmps247 U (λe=>Z)
instance:Cn prog 247 (type_of% @mh):=⟨@mh⟩
def C_ (x:Xt):Nd:=if(Ai x.zJ).isSome&&decide (x.val.length<=2000) then(if x.a2Z then .mk 0 16 true [] [Ay x.zJ,.mk 0 1 false [255] [],.mk 0 4 false x.val []] else .mk 0 16 true [] [Ay x.zJ,.mk 0 4 false x.val []]) else DU
def EN (x:Xt):Int:=if(Ai x.zJ).isSome&&decide (x.val.length<=2000) then 0 else 62
theorem jA (x:Xt) (h1:x.zJ.length<=50000000000) (h2:x.val.length<=1000000000):yq prog 265 [.st (Xt.enc x)] (.zZ [.nd (C_ x),.i (EN x)]):=by
 have:=dD x.zJ;unfold C_ EN;exact an func265 U ntmps265 U (λe=>Z)
instance:Cn prog 265 (type_of% @jA):=⟨@jA⟩
def kd (n:Nd) (i:Nat):Nd:=n.kids.getD i (.mk 0 0 false [] [])
theorem a4J (n:Nd):1<=n.sz:=by cases n;simp only [Nd.sz];omega
theorem b_ (n:Nd) (i:Nat):(n.kids.getD i (.mk 0 0 false [] [])).sz<=n.sz:=by
 have h1:=a4J n;by_cases h:i<n.kids.length
 ·rw [aU h];have:=bX (ax h);cases n;simp only [Nd.kids,Nd.sz] at this |-
  omega
 ·rw [aJ,bu xE];simpa [Nd.sz,Nd.yP] using h1
theorem wb {b:yG}(h:AJ 1 b=true):b.length=1:=by
 unfold AJ at h;simp at h;omega
theorem Vu {p:Prop}(u:p:=by first|exact xG.Ls Ps rfl|exact xG.GI Ps rfl xE xE|exact cB Ps rfl):p:=u
theorem nS:yH prog 252=true:=by kernel_rfl
theorem OV:niT prog 206=true:=by kernel_rfl
theorem Xj:OO prog 206=some ([.int .i64 0,.int .i64 0],[(0,2)]):=by kernel_rfl
theorem N6:OO prog 36=some ([.int .i64 0,.int .i64 0],[(0,1),(1,1)]):=by kernel_rfl
def gvn (at_ c:Int):Value:=.iface 206 (.agg #[.int .i64 at_,.int .i64 c])
theorem f8 {ok:Bool}{e from_:Int}{bf:Nat}:Fn prog 158 [.bool ok,.int .i64 e,.pointer (some ⟨bf,0,none⟩)] h [.yY bf 3 [.int .i64 from_]] (a0o ok (gvn from_ e) bf 3 [.int .i64 from_]):=by
 refine aQ func158 U ntmps158 U (λe he=>?_);exact m35
theorem im {ok:Bool}{e from_:Int}{bf:Nat}:Fn prog 252 [.bool ok,.int .i64 e,.pointer (some ⟨bf,0,none⟩)] h [.yY bf 3 [.int .i64 from_]] (a0o ok (gvn from_ e) bf 3 [.int .i64 from_]):=by
 refine aQ func252 U ntmps252 U (λe he=>?_);exact m35
def BZ (l:LB):Nat:=l.foldl (λa b=>a*256+b.toNat) 0
def ES (l:LB) (p e:Nat):Except Int (Nat×Nat) :=
 if ¬ p<e then .error 30 else if xF l p<128 then .ok (xF l p,p+1)
 else if ¬ (1<=xF l p-128/\xF l p-128<=4) then .error 32
 else if ¬ (xF l p-128<=e-(p+1)) then .error 30
 else if ¬ (128<=BZ ((l.drop (p+1)).take (xF l p-128))/\0<BZ ((l.drop (p+1)).take (xF l p-128)) / 256 ^ (xF l p-128-1)) then .error 32
 else .ok (BZ ((l.drop (p+1)).take (xF l p-128)),p+1+(xF l p-128))
def Fy (s:Except Int (Nat×Nat)) (from_:Int) (br:Nat) (b:Value):Ending->Part->LE->Prop:=λe _ Lo =>
 match s with
 |.ok (n,q)=>e=.returned (.int .i64 n)/\Lo=[.yY br 125 [b,.int .i64 q]]
 |.error c=>e=.panicked [{ v:=gvn from_ c,recovered:=false }]/\Lo=[]
theorem kY (l:LB) (i:Nat) (h:i<l.length):BZ (l.take (i+1))=BZ (l.take i)*256+l[i].toNat:=by
 rw [ai h];unfold BZ;rw [SQ];rfl
theorem pU (l:LB) (i:Nat):BZ (l.take i)<256 ^ i:=by
 induction i with
 |zero=>simp [BZ]
 |succ i ih =>
  by_cases h:i<l.length
  ·rw [kY l i h];have:=l[i].toNat_lt;have e:(256:Nat) ^ (i+1)=256 ^ i*256:=yh ..;omega
  ·rw [aD xE];rw [aD xE] at ih;have e:(256:Nat) ^ (i+1)=256 ^ i*256:=yh ..;omega
theorem uW (i:Nat) (h:i<=3):(256:Nat) ^ i<=16777216:=by
 have:i=0\/i=1\/i=2\/i=3:=by omega
 exact m175
variable{br:Nat}
theorem a0U {p en:Nat}{from_:Int}{ab:OA}{cb:Nat}(hl:A3 DJ 1 h ab cb l) (he:en<=l.length) :
 Fn prog 160 [.pointer (some ⟨br,0,none⟩),.int .i64 from_,.int .i64 en] h [.yY br 125 [.slice ab l.length cb,.int .i64 p]] (Fy (ES l p en) from_ br (.slice ab l.length cb)):=by
 have hb:=hl.GX;have hen:=he;refine aQ func160 U ntmps160 U (λe he=>?_);refine ba [(0,_),(1,_),(2,_)] y9 ?_;have AD:=aP h;refine Sr (JL.box U U U (λb1=>?_));refine Ru 1 U (aj (Sr (aA (xG.makeFunc (os1:=[]) (os2:=[.tmp 4]) U U) U ?_)));refine Ru 1 U (aj (Sr (Ru 4 U (aA (aG fN U zV U) U ?_))));refine Ru 2 U (JL.fail nS U U (im) zW U (λBO h2 zH=>?_) (λBO h2 zH=>?_))
 ·try simp only [a_,xL,yd,ym,yK,ne_eq,xM] at BO
  exact⟨[],_,.nil,by unfold ES;rw [xD xE];exact⟨U,U⟩⟩
 try simp only [a_,xL,yd,ym,yK,ne_eq,xM] at BO
 replace hl:=hl.mono zH
 replace AD:=AD.mono zH
 refine Nk [7,6,0,2] U (aK (J.drawn dY cq ?_));refine Rq 3 U ?_;refine JQ.op (aG eD U zV U) U ?_;refine Rq 3 U ?_;refine JQ.op (aG fN U zV U) U ?_;refine JQ.TB (aX gH U U n7 zL U xE) U ?_;rintro _ ⟨b3,o3,hi3,rfl,hE3⟩;refine JQ.op (xG.JW KZ U zL) U ?_;refine JQ.op Vu U ?_;refine Rq 1 U ?_;refine Nq [8,7,6,0,2] U ?_;refine Sr ?_;have Le:p<l.length:=xE;have hbt:=bW l p Le;have yJ:=bn l p;refine Ru 3 U (aA (aG fN U zV U) U ?_);refine aA Fc U ?_;refine Ru 2 U (bj fN U U U zW iR ?_);refine Nk [8,7,6,0,2] U (aK (Sr (Ru 2 U (aj (Cs U (λPa=>?_) λPa=>?_)))))
 ·exact Sr (Ru 2 U (Nk [6,8,7,0,2] U (dm ⟨_,[_],_,(aW U U),.cons .here .nil,by unfold ES;rw [xC xE,xD xE];exact⟨by rw [hbt],by simp⟩⟩)))
 refine aO (Sr (Ru 1 U (aA GP U ?_)));refine Ru 1 U (Nk [9,8,7,6,0,2] U (Sr (Ru 4 U (Bs 47 U (λLj=>?_) λLj=>?_))))
 ·refine Ru 3 U (JL.fail nS U U (im) zW U (λP' h7 Nr=>?_) (λP' h7 Nr=>?_))
  ·try simp only [a_,xL,yd,ym,yK,ne_eq,xM] at P'
   exact m181
  try simp only [a_,xL,yd,ym,yK,ne_eq,xM] at P'
  replace hl:=hl.mono Nr
  replace AD:=AD.mono Nr
  refine Nk [9,8,7,6,0,2] U (Sr (Ru 6 U (aA (aG fN U zV U) U ?_)));refine aA GP U ?_;refine Ru 1 U (JL.fail nS U U (im) zW U (λMB h8 HW=>?_) (λMB h8 HW=>?_))
  ·try simp only [a_,xL,yd,ym,yK,ne_eq,xM] at MB
   exact⟨[],_,.nil,by unfold ES;rw [xC xE,xC xE,xC xE,xD xE];exact⟨U,U⟩⟩
  try simp only [a_,xL,yd,ym,yK,ne_eq,xM] at MB
  replace hl:=hl.mono HW
  replace AD:=AD.mono HW
  refine Nk [9,8,7,6,0] U (Sr ?_);obtain⟨kk,hkk⟩:∃ kk:Nat,xF l p=128+kk:=⟨xF l p-128,by omega⟩;refine Ru 1 U (aj (aK (aK (J.drawn dY cq ?_))));refine Rq 3 U ?_;refine JQ.op (aG eD U zV U) U ?_;refine Rq 3 U ?_;refine JQ.op (aG fN U zV U) U ?_;refine Rq 3 U ?_;refine JQ.op (aG fN U zV U) U ?_;refine Rq 1 U ?_;refine JQ.op Fc U ?_;refine JQ.TB (dT (m:=p+1) (m':=p+1+kk) gH U U U xE xE zL U xE xE) U ?_;rintro _ ⟨as_,cs_,rfl,U9⟩;rw [show p+1+kk-(p+1)=kk by omega] at *;obtain⟨sub,P3⟩:∃ sub,sub=(l.drop (p+1)).take kk:=⟨_,U⟩;rw [<- P3] at U9 |-;have O3:sub.length=kk:=(by rw [P3];simp;omega)
  refine Rq 2 U ?_;refine Nq [78,77,76,8,9,7,6,0] U ?_;refine aV (bU (λt_ S_ h_ L_=>∃ (g:Part) (i:Nat),t_=kk-i/\S_=[(0,.pointer (some ⟨br,0,none⟩)),(7,.func (.func 252) #[] #[.pointer (some ⟨b1,0,none⟩)]),(8,.int .i64 (BZ (sub.take i))),(9,.int .i64 ((l[p].toNat:Int)-128)),(76,.slice as_ sub.length cs_),(77,.int .i64 sub.length),(78,.int .i64 i)]/\g=h_/\L_=[.yY b1 3 [.int .i64 from_],.yY br 125 [.slice ab l.length cb,.int .i64 (p+1)]]/\(h.le g/\A3 DJ 1 g as_ cs_ sub/\i<=kk)) ⟨_,_,?_,⟨_,0,U,U,U,U,⟨by assumption,by assumption,by omega⟩⟩⟩ ?_)
  ·exact m136
  rintro _ _ _ _ ⟨g,i,rfl,rfl,rfl,rfl,J9,U9,hi⟩;have Nz:=pU sub i;refine Sr (Ru 1 U (aj (aK (Cs U (λIq=>?_) λIq=>?_))))
  ·have b1k:=uW i xE;have DW:=kY sub i xE;have hsb:=(sub[i]'xE).toNat_lt;refine aO (aK (aV (Sr (cX (aX gH U U n7 zL U xE) U ?_))));rintro _ ⟨b11,o11,a6j,rfl,a6u⟩;refine aA (xG.JW KZ U zL) U ?_;refine Ru 1 U (aj (Rg (Ru 1 U (aA (by first|exact xG.LP 256 rfl rfl yD yD yD xE xE|exact xG.shl rfl rfl yD yD) U ?_))));refine Ru 1 U (aA Vu U ?_);refine aA (xG.Ni 8 256 U U yD xE xE xE xE xE xE) U ?_;refine Ru 1 U (aj (Rg (aA Fc U ?_)));refine Ru 1 U (aj (⟨_,?_,_,?_,⟨_,i+1,U,U,U,U,⟨by assumption,by assumption,by omega⟩⟩⟩))
   ·omega
   exact m136
  refine bJ (Kp [0,7,8,9] U (Sr ?_));have hv:BZ ((l.drop (p+1)).take (xF l p-128))=BZ (sub.take i):=(by rw [hkk,show 128+kk-128=kk by omega,<- P3,aD xE]);have hsh:=oh (BZ (sub.take i)) (xF l p-128-1) (8*((l[p].toNat:Int)-128-1)) xE;refine Ru 4 U (Bs 91 U (λPc=>?_) λPc=>?_)
  ·refine Ru 2 U (bz U U  GP U ?_);refine bz U U  Oc U ?_;refine bz U U  (xG.shr U U xE (by show _<=((64:Nat):Int);omega)) U ?_;rw [hsh];refine Ru 2 U (JL.fail nS U U (im) zW U (λKS h14 Yz=>?_) (λKS h14 Yz=>?_))
   ·try simp only [a_,xL,yd,ym,yK,ne_eq,xM] at KS
    exact m132
   try simp only [a_,xL,yd,ym,yK,ne_eq,xM] at KS
   replace J9:=J9.mono Yz
   replace U9:=U9.mono Yz
   refine Nk [0,8,9] U (Sr (Ru 3 U (aA (aG fN U zV U) U ?_)));refine Ru 1 U (aA Fc U ?_);refine Ru 2 U (bj fN U U U zW iR ?_);exact Nk [8] U (Sr (Ru 2 U (aj (dm ⟨_,[_],_,(aW U U),.cons zW .nil,by unfold ES;rw [xC xE,xC xE,xC xE,xC xE,xC (by rw [hv];omega)];exact⟨by rw [hv],by simp;omega⟩⟩))))
  refine Ru 7 U (JL.fail nS U U (im) zW U (λU8 h15 Nw=>?_) (λU8=>by cases U8));exact m132
 refine Ru 3 U (JL.fail nS U U (im) zW U (λU7 h16 b1M=>?_) (λU7=>by cases U7));exact m181
variable{Lo:LE}
theorem Fy.out {s:Except Int (Nat×Nat)}{fr:Int}{b:Value}(k:Fy s fr br b .outgrown h Lo):False:=by
 unfold Fy at k;split at k<;>cases k.1
theorem Fy.pan {s:Except Int (Nat×Nat)}{fr:Int}{b:Value}{ch:List PanicEntry}(k:Fy s fr br b (.panicked ch) h Lo):∃ c,s=.error c/\ch=[{ v:=gvn fr c,recovered:=false }]:=by
 unfold Fy at k;split at k
 ·cases k.1
 ·rename_i c;have:=k.1;injection this with e;exact⟨c,U,e⟩
theorem Fy.ret {s:Except Int (Nat×Nat)}{fr:Int}{b v:Value}(k:Fy s fr br b (.returned v) h Lo):∃ n q:Nat,s=.ok (n,q)/\v=.int .i64 n/\Lo=[.yY br 125 [b,.int .i64 q]]:=by
 unfold Fy at k;split at k
 ·rename_i n q;have:=k.1;injection this with e;exact⟨n,q,U,e,k.2⟩
 ·cases k.1
theorem nr {p en n q:Nat}(h:ES l p en=.ok (n,q)):p<q/\q<=en:=by
 unfold ES at h;split at h
 ·cases h
 ·split at h
  ·cases h;omega
  ·split at h
   ·cases h
   ·split at h
    ·cases h
    ·split at h
     ·cases h
     ·exact m31
theorem z4_ {p:Prop}(u:p:=by repeat (first|exact trivial|refine⟨rfl,?_⟩|refine⟨(by exact gQ (by unfold Aq;cases r<;>first|rfl|(rw [ae (show acc.length=0 by omega)];rfl)|(rw [ah (show ¬ acc.length=0 by omega)];rfl)|(exfalso;simp_all;done))),?_⟩)):p:=u
theorem w9:yH prog 126=true:=by kernel_rfl
theorem jK:yH prog 158=true:=by kernel_rfl
theorem a7a:yH prog 159=true:=by kernel_rfl
theorem a7_:yH prog 160=true:=by kernel_rfl
theorem a7':yH prog 161=true:=by kernel_rfl
theorem ZQ:yH prog 75=true:=by kernel_rfl
theorem vA:CM prog 125 0=some 0:=by kernel_rfl
theorem iB:CM prog 125 1=some 1:=by kernel_rfl
theorem RM:CM prog 33 3=some 3:=by kernel_rfl
theorem ia:CM prog 33 4=some 4:=by kernel_rfl
theorem a9S:CH prog 3=some [.int .i64 0]:=by kernel_rfl
abbrev MI (α:Type):=Except (Int×Int) α
def Gb (l:LB) (p en:Nat) (ok:Bool):MI (Nat×Nat×Bool×Nat×Nat) :=
 if ¬ p<en then .error (p,30)
 else if B6 (xF l p / 64:Nat) (xF l p % 32:Nat) (decide (xF l p / 32 % 2=1))=false then .error (p,31)
 else match ES l (p+1) en with
  |.error c=>.error (p,c)
  |.ok (n,q)=>if ¬ n<=en-q then .error (p,30) else if ok=false then .error (p,33) else .ok (xF l p / 64,xF l p % 32,decide (xF l p / 32 % 2=1),n,q)
def Aq (l:LB) (i j:Nat):LB:=(l.drop i).take (j-i)
def GQ (rd:Nat->Nat->MI (Nd×Nat)) (l:LB) (stop:Nat):Nat->Nat->LN->Bool->Nat->MI (LN×Bool×Nat)
 |0,p,acc,r,_=>.ok (acc,r,p)
 |f+1,p,acc,r,last=>if ¬ p<stop then .ok (acc,r,p) else match rd p stop with
  |.error e=>.error e
  |.ok (x,p')=>GQ rd l stop f p' (acc++[x]) (r&&(decide (acc.length=0)||decide (Go.Lib.compareBytes (Aq l last p) (Aq l p p')<=0))) p
def D4:Nat->LB->Nat->Nat->MI (Nd×Nat)
 |0,l,p,en=>match Gb l p en false with
  |.error e=>.error e
  |.ok _=>.error (p,33)
 |d+1,l,p,en=>match Gb l p en true with
  |.error e=>.error e
  |.ok (c,t,k,n,q) =>
   if k=false then(if decide (c=2)||AJ t (Aq l q (q+n)) then .ok (.mk c t false (Aq l q (q+n)) [],q+n) else .error (p,34))
   else match GQ (D4 d l) l (q+n) n q [] true q with
    |.error e=>.error e
    |.ok (ks,r,p')=>if r||(decide (c≠0)||decide (t≠17)) then .ok (.mk c t true [] ks,p') else .error (p,34)
variable{k:Bool}
theorem nu {p en:Nat}{ok:Bool}{c t n q:Nat}(h:Gb l p en ok=.ok (c,t,k,n,q)):p+1<q/\q+n<=en/\c<=3/\t<=31:=by
 unfold Gb at h;split at h
 ·cases h
 ·split at h
  ·cases h
  ·split at h
   ·cases h
   ·rename_i n' q' hs;have:=nr hs;have:=bn l p;split at h
    ·cases h
    ·split at h
     ·cases h
     ·injection h with h;injection h with h1 h2;injection h2 with h2 h3;injection h3 with h3 h4;injection h4 with h4 h5;omega
theorem X2 {rd:Nat->Nat->MI (Nd×Nat)}{l:LB}{stop:Nat}(V6:∀ p x p',rd p stop=.ok (x,p')->p<p'/\p'<=stop):∀ (f p:Nat) (acc:LN) (r:Bool) (last:Nat) (ks:LN) (r':Bool) (p':Nat),p<=stop->stop<=p+f->GQ rd l stop f p acc r last=.ok (ks,r',p')->p'=stop
 |0,p,acc,r,last,ks,r',p',h1,h2,h=>by simp only [GQ] at h;injection h with h;injection h with h3 h4;injection h4 with h4 h5;omega
 |f+1,p,acc,r,last,ks,r',p',h1,h2,h=>by
  simp only [GQ] at h;split at h
  ·injection h with h;injection h with h3 h4;injection h4 with h4 h5;omega
  ·split at h
   ·cases h
   ·rename_i x q hq;have:=V6 p x q hq;exact X2 V6 f q _ _ _ ks r' p' this.2 xE h
theorem iL:∀ (d:Nat) (l:LB) (p en:Nat) (x:Nd) (p':Nat),D4 d l p en=.ok (x,p')->p<p'/\p'<=en
 |0,l,p,en,x,p',h=>by simp only [D4] at h;split at h<;>cases h
 |d+1,l,p,en,x,p',h=>by
  simp only [D4] at h;split at h
  ·cases h
  ·rename_i c t k n q hh;have h0:=nu hh;split at h
   ·split at h
    ·exact m31
    ·cases h
   ·split at h
    ·cases h
    ·rename_i ks r p1 hk;have:=X2 (λp x p'=>iL d l p (q+n) x p') n q _ _ _ _ _ _ xE xE hk;split at h
     ·exact m31
     ·cases h
def Dm (s:MI (Nd×Nat)) (br:Nat) (b:Value):Ending->Part->LE->Prop:=λe h' Lo =>
 match s with
 |.ok (x,q)=>(∃ cs,e=.returned (.agg (List.toArray cs))/\B9 h' cs x)/\Lo=[.yY br 125 [b,.int .i64 q]]
 |.error (a,c)=>e=.panicked [{ v:=gvn a c,recovered:=false }]/\Lo=[]
theorem Dm.out {s:MI (Nd×Nat)}{b:Value}(k:Dm s br b .outgrown h Lo):False:=by
 unfold Dm at k;split at k
 ·obtain⟨⟨_,hh,_⟩,_⟩:=k;cases hh
 ·cases k.1
theorem Dm.pan {s:MI (Nd×Nat)}{b:Value}{ch:List PanicEntry}(k:Dm s br b (.panicked ch) h Lo):∃ a c,s=.error (a,c)/\ch=[{ v:=gvn a c,recovered:=false }]:=by
 unfold Dm at k;split at k
 ·obtain⟨⟨_,hh,_⟩,_⟩:=k;cases hh
 ·rename_i a c;have:=k.1;injection this with e;exact⟨a,c,U,e⟩
theorem Dm.ret {s:MI (Nd×Nat)}{b v:Value}(k:Dm s br b (.returned v) h Lo):∃ (x:Nd) (q:Nat) (cs:LV),s=.ok (x,q)/\v=.agg cs.toArray/\B9 h cs x/\Lo=[.yY br 125 [b,.int .i64 q]]:=by
 unfold Dm at k;split at k
 ·rename_i x q;obtain⟨⟨cs,hh,hn⟩,hL⟩:=k;injection hh with e;exact⟨x,q,cs,U,e,hn,hL⟩
 ·cases k.1
theorem Qx {d:Nat}{p en:Nat}{e:Int×Int}(h:Gb l p en true=.error e):D4 (d+1) l p en=.error e:=by simp only [D4];rw [h]
theorem uJ {p en:Nat}{e:Int×Int}(h:Gb l p en false=.error e):D4 0 l p en=.error e:=by simp only [D4];rw [h]
theorem gv {d:Nat}{tr:Bool}{p en:Nat}{e:Int×Int}(ht:tr=decide (0<d)) (h:Gb l p en tr=.error e):D4 d l p en=.error e:=by
 cases d with
 |zero=>subst ht;exact uJ h
 |succ d =>
  obtain rfl:tr=true:=by simpa using ht
  exact Qx h
theorem jk {d:Nat}{p en c t n q:Nat}(h:Gb l p en true=.ok (c,t,false,n,q)):D4 (d+1) l p en=if decide (c=2)||AJ t (Aq l q (q+n)) then .ok (.mk c t false (Aq l q (q+n)) [],q+n) else .error (p,34):=by simp only [D4];rw [h];rfl
theorem eJ {d:Nat}{p en c t n q:Nat}(h:Gb l p en true=.ok (c,t,true,n,q)):D4 (d+1) l p en=match GQ (D4 d l) l (q+n) n q [] true q with
 |.error e=>.error e
 |.ok (ks,r,p')=>if r||(decide (c≠0)||decide (t≠17)) then .ok (.mk c t true [] ks,p') else .error (p,34):=by simp only [D4];rw [h];rfl
theorem gw {rd:Nat->Nat->MI (Nd×Nat)}{stop f p last:Nat}{acc:LN}{r:Bool}(h:¬ p<stop):GQ rd l stop f p acc r last=.ok (acc,r,p):=by
 cases f with
 |zero=>rfl
 |succ f=>simp only [GQ];rw [xD h]
theorem oG {rd:Nat->Nat->MI (Nd×Nat)}{stop f p last:Nat}{acc:LN}{r:Bool}{e:Int×Int}(h:p<stop) (he:rd p stop=.error e):GQ rd l stop (f+1) p acc r last=.error e:=by
 simp only [GQ];rw [xC xE,he]
theorem nt {rd:Nat->Nat->MI (Nd×Nat)}{stop f p last p':Nat}{acc:LN}{r:Bool}(h:p<stop) (he:rd p stop=.ok (x,p')):GQ rd l stop (f+1) p acc r last=GQ rd l stop f p' (acc++[x]) (r&&(decide (acc.length=0)||decide (Go.Lib.compareBytes (Aq l last p) (Aq l p p')<=0))) p:=by
 rw [GQ,xC xE,he]
theorem a1Y:∀ (d:Nat) (l:LB) (p en:Nat) (br:Nat) (ab:OA) (cb:Nat) (h:Part),A3 DJ 1 h ab cb l->D_ h->l.length<=16777216->en<=l.length->d<=32 ->
 Fn prog 75 [.pointer (some ⟨br,0,none⟩),.int .i64 en,.int .i64 ((33:Int)-d)] h [.yY br 125 [.slice ab l.length cb,.int .i64 p]] (Dm (D4 d l p en) br (.slice ab l.length cb)):=by
 intro d0
 induction d0 using Nat.strongRecOn with
 |_ d0 ih =>
  intro l p en br ab cb h hl hT GU hen hd;obtain⟨tr,htr⟩:∃ tr,tr=decide (0<d0):=⟨_,U⟩;refine aQ func75 U ntmps75 U (λe he=>?_);refine ba [(0,_),(1,_),(2,_)] y9 ?_;have AD:=aP h;refine Sr (bp iQ U (λb1=>?_));refine aj (Sr (Ru 3 U (aA (aG fN U zV U) U ?_)));refine bp a9S U (λb2=>?_);refine bj fN U U U zW iR ?_;refine aj (Sr (aA (xG.makeFunc (os1:=[]) (os2:=[.tmp 7]) U U) U ?_));refine Ru 1 U (Nk [8,7,6,0,1,2] U (Sr (Ru 4 U (aA (aG fN U zV U) U ?_))));refine Ru 2 U (JL.fail jK U U (f8) zW U (λDv h3 FU=>?_) (λDv h3 FU=>?_))
  ·try simp only [a_,xL,yd,ym,yK,ne_eq,xM] at Dv
   have hE:Gb l p en tr=.error (p,30):=(by unfold Gb;rw [xD xE]);exact m74
  try simp only [a_,xL,yd,ym,yK,ne_eq,xM] at Dv
  replace hl:=hl.mono FU
  replace hT:=hT.mono FU
  replace AD:=AD.mono FU
  refine Nk [8,7,6,0,1,2] U (aK (J.drawn dY cq ?_));refine Rq 3 U ?_;refine JQ.op (aG eD U zV U) U ?_;refine Rq 3 U ?_;refine JQ.op (aG fN U zV U) U ?_;refine JQ.TB (aX gH U U n7 zL U xE) U ?_;rintro _ ⟨b4,o4,hi4,rfl,hE4⟩;refine JQ.op (xG.JW KZ U zL) U ?_;refine Rq 1 U ?_;refine Nq [9,8,7,6,0,1,2] U ?_;refine Sr ?_;have Le:p<l.length:=xE;have hbt:=bW l p Le;have yJ:=bn l p;refine Ru 3 U (aA (aG fN U zV U) U ?_);refine aA Fc U ?_;refine Ru 2 U (bj fN U U U zW iR ?_);refine Nk [9,8,7,6,0,1,2] U (Sr (Ru 1 U (aA (xG.a4R 64 U U yD yD yD) U ?_)));refine aA Vu U ?_;rw [show((l[p].toNat:Int) / 64)=((xF l p / 64:Nat):Int) by rw [hbt];simp];refine Ru 1 U (aA (by first|exact xG.N' 5 32 rfl rfl yD yD yD|exact xG.M_ 5 32 rfl rfl yD yD yD xE xE|exact xG.UN rfl rfl) U ?_);refine aA Vu U ?_;rw [show((l[p].toNat:Int) % 32)=((xF l p % 32:Nat):Int) by rw [hbt];simp];refine Ru 1 U (aA (xG.a9B U xE xE) U ?_);refine Ru 1 U ?_;rw [show decide ((0:Int)<32*((l[p].toNat:Int) / 32 % 2))=decide (xF l p / 32 % 2=1) from y7.2 xE];obtain⟨c,MA⟩:∃ c,xF l p / 64=c:=⟨_,U⟩;obtain⟨t,Yv⟩:∃ t,xF l p % 32=t:=⟨_,U⟩;obtain⟨k,O4⟩:∃ k,decide (xF l p / 32 % 2=1)=k:=⟨_,U⟩;rw [MA,Yv,O4];refine aA (bi (cs:=[_,_,_,.slice none 0 0,.slice none 0 0]) n8 U U) U ?_;refine bp iQ U (λb6=>?_);refine aZ ci U U zW lx ly Dn ?_;refine Nk [10,8,7,6,0,1,2] U (Sr (Ru 1 U (aA (bK ci U zV Dn) U ?_)));refine cj a7a U (a1E (x:=.mk c t k [] []) (B9.of bA bA) zL) U ?_;refine JL.fail jK U U (f8) zW U (λMB h8 HW=>?_) (λMB h8 HW=>?_)
  ·try simp only [a_,xL,yd,ym,yK,ne_eq,xM] at MB
   have hE:Gb l p en tr=.error (p,31):=(by unfold Gb;rw [xC xE,MA,Yv,O4,xD (by exact MB)]);exact m74
  try simp only [a_,xL,yd,ym,yK,ne_eq,xM] at MB
  replace hl:=hl.mono HW
  replace hT:=hT.mono HW
  replace AD:=AD.mono HW
  have Mg:B6 c t k=true:=MB;refine aj (Sr (Ru 1 U (aA (aG fN U zV U) U ?_)));refine Ru 1 U (JL.Kf a7_ U (a0U zL xE) HC U (λ_ _ hh=>(Fy.out hh).elim) (λch9 h9 Lo9 FT hR9=>?_) (λv9 h9 Lo9 FT hR9=>?_))
  ·have hR9:=Fy.pan hR9;obtain⟨zc,O1,rfl⟩:=hR9;have hE:Gb l p en tr=.error (p,zc):=(by unfold Gb;rw [xC xE,MA,Yv,O4,xC (by rw [Mg];decide),O1]);exact m74
  obtain⟨zn,zq,hzs,rfl,rfl⟩:=Fy.ret hR9
  replace hl:=hl.mono FT
  replace hT:=hT.mono FT
  replace AD:=AD.mono FT
  have hzq:=nr hzs;refine Ru 1 U (Nk [11,10,8,6,0,1,2] U (Sr (Ru 6 U (aA (aG fN U zV U) U ?_))));refine aA GP U ?_;refine Ru 1 U (JL.fail jK U U (f8) zW U (λIq K2 Rw=>?_) (λIq K2 Rw=>?_))
  ·try simp only [a_,xL,yd,ym,yK,ne_eq,xM] at Iq
   have hE:Gb l p en tr=.error (p,30):=(by unfold Gb;rw [xC xE,MA,Yv,O4,xC (by rw [Mg];decide),hzs];simp only;rw [xD xE]);exact m74
  try simp only [a_,xL,yd,ym,yK,ne_eq,xM] at Iq
  replace hl:=hl.mono Rw
  replace hT:=hT.mono Rw
  replace AD:=AD.mono Rw
  refine Nk [11,10,8,6,0,2] U (Sr (Ru 3 U (JL.fail jK U U (f8) zW U (λPe Vd Rs=>?_) (λPe Vd Rs=>?_))))
  ·try simp only [a_,xL,yd,ym,yK,ne_eq,xM] at Pe
   have hE:Gb l p en tr=.error (p,33):=(by rw [htr,ah xE];unfold Gb;rw [xC xE,MA,Yv,O4,xC (by rw [Mg];decide),hzs];simp only;rw [xC xE];rfl);exact m74
  try simp only [a_,xL,yd,ym,yK,ne_eq,xM] at Pe
  replace hl:=hl.mono Rs
  replace hT:=hT.mono Rs
  replace AD:=AD.mono Rs
  obtain⟨d,rfl⟩:∃ d,d0=d+1:=⟨d0-1,by omega⟩;refine aj (aK (Sr ?_));have hH:Gb l p en true=.ok (c,t,k,zn,zq):=(by unfold Gb;rw [xC xE,MA,Yv,O4,xC (by rw [Mg];decide),hzs];simp only;rw [xC xE,xC yD]);refine Ru 1 U (aA (aG a9F U zV U) U ?_);refine Ru 1 U (Nk [80,11,10,8,6,0,2] U (Cs U (λPd=>?_) λPd=>?_))
  ·have hkf:k=false:=(by simpa using Pd);subst hkf;refine aK (J.held ([.yY br 125 [.slice ab l.length cb,.int .i64 zq]]) 18 dY U (λCR=>?_));refine Tk 0 U (aY U) ?_;refine Tk 1 U (dz U) ?_;refine Tk 2 U (by first|exact bY vA rfl|exact bH vA rfl) ?_;refine Tk 3 U (aG eD U zV U) ?_;refine Tk 4 U (aY U) ?_;refine Tk 5 U (dz U) ?_;refine Tk 6 U (by first|exact bY iB rfl|exact bH iB rfl) ?_;refine Tk 7 U (aG fN U zV U) ?_;refine Tk 8 U (aY U) ?_;refine Tk 9 U (dz U) ?_;refine Tk 10 U (by first|exact bY iB rfl|exact bH iB rfl) ?_;refine Tk 11 U (aG fN U zV U) ?_;refine Tk 12 U (aY U) ?_;refine Tk 13 U Fc ?_;refine Te 14 U (dT (m:=zq) (m':=zq+zn) gH U U U U xE zL U xE xE) ?_;rintro _ ⟨as_,cs_,rfl,U9⟩;obtain⟨bs,RG⟩:∃ bs,Aq l zq (zq+zn)=bs:=⟨_,U⟩;have hbc:=RG;unfold Aq at RG;rw [RG] at U9 |-;have b2h:=U9.GX;have b1e:bs.length<=16777216:=(by rw [<- RG];simp;omega)
   refine Ta 15 U ?_;unfold One;refine dh 5 1 ?_;refine JL.append tV U U (bQ (R:=DJ)) U zL U zW LD U U (λa14 c14 b1U b1j b2t=>?_);obtain rfl:=b1j.u8;refine JL.LZ (R:=DJ) (l:=bs) zW cJ U LD (λh15 Nw a2C=>?_)
   replace hl:=hl.mono Nw
   replace hT:=hT.mono Nw
   replace AD:=AD.mono Nw
   replace U9:=U9.mono Nw
   refine aj ⟨(Dr CR),?_⟩;refine Tk 16 U (by first|exact bY RM rfl|exact bH RM rfl) ?_;refine Ta 17 U ?_;unfold One;refine bj eD U U U zW iR ?_;refine aj ⟨(Dr CR),?_⟩;refine dJ cq ?_;refine Kp [11,10,8,6,0,2] U (Sr (Ru 3 U (aA (aG fN U zV U) U ?_)));refine Ru 1 U (aA Fc U ?_);refine Ru 2 U (bj fN U U U zW iR ?_);refine Nk [11,10,8,6,0,2] U (Sr (Ru 2 U (aA (aG fN U zV U) U ?_)));refine Ru 2 U (Bs 110 U (λU7=>?_) λU7=>?_)
   ·refine Ru 6 U (JL.fail jK U U (f8) zW U (λa2A=>by cases a2A) (λa2A h17 JZ=>?_))
    replace hl:=hl.mono JZ
    replace hT:=hT.mono JZ
    replace AD:=AD.mono JZ
    replace U9:=U9.mono JZ
    replace a2C:=a2C.mono JZ
    refine Nk [11,10,8,6,0,2] U (Sr (aA (bK ci U zV Dn) U ?_));refine aZ ci U U zW lx ly Dn ?_;refine aj ?_;have hN:D4 (d+1) l p en=.ok (.mk c t false bs [],zq+zn):=(by rw [jk hH,hbc,xD (by rw [ae xE];rfl)]);exact m114
   refine Ru 1 U (bz U U  (aG fN U zV U) U ?_);refine Ru 1 U (bz U U  (aG eD U zV U) U ?_);refine JL.Iv U U  a7' U (VH (l:=bs) zL zL xE) U ?_;refine Ru 1 U (JL.fail jK U U (f8) zW U (λMj h19 Lf=>?_) (λMj h19 Lf=>?_))
   ·try simp only [a_,xL,yd,ym,yK,ne_eq,xM] at Mj
    have hN:D4 (d+1) l p en=.error (p,34):=(by rw [jk hH,hbc,xC (by rw [show AJ t bs=false from Mj,ah xE];decide)]);exact m107
   try simp only [a_,xL,yd,ym,yK,ne_eq,xM] at Mj
   replace hl:=hl.mono Lf
   replace hT:=hT.mono Lf
   replace AD:=AD.mono Lf
   replace U9:=U9.mono Lf
   replace a2C:=a2C.mono Lf
   have V5:AJ t bs=true:=Mj;refine Nk [11,10,8,6,0,2] U (Sr (aA (bK ci U zV Dn) U ?_));refine aZ ci U U zW lx ly Dn ?_;refine aj ?_;have hN:D4 (d+1) l p en=.ok (.mk c t false bs [],zq+zn):=(by rw [jk hH,hbc,xD (by rw [V5];simp)]);exact m114
  have hkt:k=true:=(by simpa using Pd);subst hkt;refine aO (Sr (Ru 3 U (aA (aG fN U zV U) U ?_)));refine Ru 2 U (Nk [13,12,11,10,8,6,0,2] U (aK (Sr (Ru 3 U (aA (aG fN U zV U) U ?_)))));refine Ru 1 U (aA Fc U ?_);refine Ru 1 U ?_;refine dh 33 5 ?_;refine JL.Hx [.yY br _ _,.yY b6 _ _,.row _ _ _ _ _ _,.yY b2 _ _,.yY b1 _ _] HC ?_;refine Nk [14,13,12,10,8,6,0,2] U (aV (bU (λt_ S_ h_ L_=>∃ (g:Part) (f pos last:Nat) (acc:LN) (r:Bool) (ak:OA) (ck:Nat) (xs:LV),t_=zq+zn-pos/\S_=[(0,.pointer (some ⟨br,0,none⟩)),(2,.int .i64 ((33:Int)-((d+1:Nat):Int))),(6,.pointer (some ⟨b1,0,none⟩)),(8,.func (.func 158) #[] #[.pointer (some ⟨b2,0,none⟩)]),(10,.pointer (some ⟨b6,0,none⟩)),(12,.int .i64 last),(13,.bool r),(14,.int .i64 ((zq+zn:Nat):Int))]/\g=h_/\L_=[.yY br 125 [.slice ab l.length cb,.int .i64 pos],.yY b6 33 [.int .i64 c,.int .i64 t,.bool true,.slice none 0 0,.slice ak acc.length ck],.row ak ck 33 5 acc.length xs,.yY b2 3 [.int .i64 p],.yY b1 33 [.int .i64 0,.int .i64 0,.bool false,.slice none 0 0,.slice none 0 0]]/\(h.le g/\A3 DJ 1 g ab cb l/\D_ g/\yl B9 5 g xs acc/\last<=pos/\pos<=zq+zn/\zq+zn<=pos+f/\acc.length<=pos/\GQ (D4 d l) l (zq+zn) zn zq [] true zq=GQ (D4 d l) l (zq+zn) f pos acc r last)) ⟨_,_,?_,⟨_,zn,zq,zq,[],true,none,0,[],U,U,U,U,⟨by assumption,by assumption,by assumption,bQ,by omega,by omega,by omega,by simp,U⟩⟩⟩ ?_))
  ·exact Du
  rintro _ _ _ _ ⟨g,f,pos,last,acc,r,ak,ck,xs,rfl,rfl,rfl,rfl,J9,hl,hT,hC,hlp,Rl,hpf,hap,hK⟩;refine aK (Sr (Ru 3 U (aA (aG fN U zV U) U ?_)));refine Ru 2 U (aj (Cs U (λa6r=>?_) λa6r=>?_))
  ·obtain⟨f',rfl⟩:∃ f',f=f'+1:=⟨f-1,by omega⟩;refine aO (aV (Sr (Ru 3 U (aA (aG fN U zV U) U ?_))));refine Ru 1 U (aj (aK (J.held ([]) 11 dY U (λCR=>?_))));refine Tk 0 U (by first|exact bY ia rfl|exact bH ia rfl) ?_;refine Tk 2 U (aY U) ?_;refine Tk 3 U (aY U) ?_;refine Tk 4 U (aY U) ?_;refine Tk 5 U Fc ?_;rw [show((33:Int)-((d+1:Nat):Int)+1)=33-(d:Int) by omega];refine JH.PL 1 6 cq U U ?_ ?_
   ·unfold One;refine aA (aG l7 U zV U) U ?_;refine aj ⟨(Dr CR),?_⟩;refine Ta 6 U ?_;unfold One;refine JL.Kf ZQ U (ih d xE l pos (zq+zn) br ab cb _ zL zL GU xE xE) HC U (λ_ _ hh=>(Dm.out hh).elim) (λb2I h21 b1G Nv YO=>?_) (λv21 h21 b1G Nv YO=>?_)
    ·have YO:=Dm.pan YO;obtain⟨xa,xc,hxe,rfl⟩:=YO;exact m208
    obtain⟨x,p',xcs,KR,rfl,Pg,rfl⟩:=Dm.ret YO
    replace J9:=J9.mono Nv
    replace hC:=hC.mono Nv
    replace hl:=hl.mono Nv
    replace hT:=hT.mono Nv
    have O2:=iL d l pos (zq+zn) x p' KR;have hal:((acc++[x]).length:Int)=(acc.length:Int)+1:=by simp
    refine aj ⟨(Dr CR),?_⟩;refine Ta 7 U ?_;unfold One;refine JL.Y_ rY U Dn U U (λb22=>?_);refine aj ⟨(Dr CR),?_⟩;refine Ta 8 U ?_;unfold One;refine di rY U U zL U zW zW Dn (Pg) LD U U (λa23 c23 b1R b2A b2q=>?_);refine aj ⟨(Dr CR),?_⟩;refine Tk 9 U (by first|exact bY ia rfl|exact bH ia rfl) ?_;refine Ta 10 U ?_;unfold One;refine bj l7 U U U zW iR ?_;refine aj ⟨(Dr CR),?_⟩;refine dJ cq ?_;refine aK (J.meet [(13,.bool (r&&(decide (acc.length=0)||decide (Go.Lib.compareBytes (Aq l last pos) (Aq l pos p')<=0))))] [(148,_),(147,_),(146,_),(145,_),(140,_),(144,_),(143,_),(142,_),(141,_),(139,_),(15,_),(138,_),(137,_),(136,_),(135,_),(134,_),(133,_),(132,_),(131,_),(130,_),(129,_),(0,_),(2,_),(6,_),(8,_),(10,_),(12,_),(14,_)] y9 ?_ ?_)
    ·refine J.drawn dY cq ?_;refine Rq 2 U ?_;refine Bq 150 U (λb1c=>?_) λb1c=>?_
     ·refine Rq 1 U ?_;refine JQ.NY U U  (aG l7 U zV U) U ?_;refine Rq 3 U ?_;refine Bq 155 U (λb1b=>?_) λb1b=>?_
      ·exact m158
      exact m13
     exact m157
    exact m21
   unfold One;refine JL.Kf ZQ U (ih d xE l pos (zq+zn) br ab cb _ zL zL GU xE xE) HC U (λ_ _ hh=>(Dm.out hh).elim) (λb2H h29 b1F Nu YN=>?_) (λv29 h29 b1F Nu YN=>?_)
   ·have YN:=Dm.pan YN;obtain⟨xa,xc,hxe,rfl⟩:=YN;exact m208
   obtain⟨x,p',xcs,KR,rfl,Pg,rfl⟩:=Dm.ret YN
   replace J9:=J9.mono Nu
   replace hC:=hC.mono Nu
   replace hl:=hl.mono Nu
   replace hT:=hT.mono Nu
   have O2:=iL d l pos (zq+zn) x p' KR;have hal:((acc++[x]).length:Int)=(acc.length:Int)+1:=by simp
   refine aj ⟨(Dr CR),?_⟩;refine JH.PL 1 7 cq U U ?_ ?_
   ·unfold One;refine aA (aG l7 U zV U) U ?_;refine aj ⟨(Dr CR),?_⟩;refine Ta 7 U ?_;unfold One;refine JL.Y_ rY U Dn U U (λb30=>?_);refine aj ⟨(Dr CR),?_⟩;refine Ta 8 U ?_;unfold One;refine di rY U U zL U zW zW Dn (Pg) LD U U (λa31 c31 b1Q b2z b2p=>?_);refine aj ⟨(Dr CR),?_⟩;refine Tk 9 U (by first|exact bY ia rfl|exact bH ia rfl) ?_;refine Ta 10 U ?_;unfold One;refine bj l7 U U U zW iR ?_;refine aj ⟨(Dr CR),?_⟩;refine dJ cq ?_;refine aK (J.meet [(13,.bool (r&&(decide (acc.length=0)||decide (Go.Lib.compareBytes (Aq l last pos) (Aq l pos p')<=0))))] [(148,_),(147,_),(146,_),(140,_),(145,_),(144,_),(143,_),(142,_),(141,_),(139,_),(15,_),(138,_),(137,_),(136,_),(135,_),(134,_),(133,_),(132,_),(131,_),(130,_),(129,_),(0,_),(2,_),(6,_),(8,_),(10,_),(12,_),(14,_)] y9 ?_ ?_)
    ·refine J.drawn dY cq ?_;refine Rq 2 U ?_;refine Bq 150 U (λb1a=>?_) λb1a=>?_
     ·refine Rq 1 U ?_;refine JQ.NY U U  (aG l7 U zV U) U ?_;refine Rq 3 U ?_;refine Bq 155 U (λb1_=>?_) λb1_=>?_
      ·exact m158
      exact m13
     exact m157
    exact m21
   unfold One;refine JL.Y_ rY U Dn U U (λb37=>?_);refine aj ⟨(Dr CR),?_⟩;refine Ta 1 U ?_;unfold One;refine aA (aG l7 U zV U) U ?_;refine aj ⟨(Dr CR),?_⟩;refine Ta 8 U ?_;unfold One;refine di rY U U zL U zW zW Dn (Pg) LD U U (λa38 c38 b1P b2y b2o=>?_);refine aj ⟨(Dr CR),?_⟩;refine Tk 9 U (by first|exact bY ia rfl|exact bH ia rfl) ?_;refine Ta 10 U ?_;unfold One;refine bj l7 U U U zW iR ?_;refine aj ⟨(Dr CR),?_⟩;refine dJ cq ?_;refine aK (J.meet [(13,.bool (r&&(decide (acc.length=0)||decide (Go.Lib.compareBytes (Aq l last pos) (Aq l pos p')<=0))))] [(148,_),(147,_),(140,_),(146,_),(145,_),(144,_),(143,_),(142,_),(141,_),(139,_),(15,_),(138,_),(137,_),(136,_),(135,_),(134,_),(133,_),(132,_),(131,_),(130,_),(129,_),(0,_),(2,_),(6,_),(8,_),(10,_),(12,_),(14,_)] y9 ?_ ?_)
   ·refine J.drawn dY cq ?_;refine Rq 2 U ?_;refine Bq 150 U (λb1'=>?_) λb1'=>?_
    ·refine Rq 1 U ?_;refine JQ.NY U U  (aG l7 U zV U) U ?_;refine Rq 3 U ?_;refine Bq 155 U (λb18=>?_) λb18=>?_
     ·exact m158
     exact m13
    exact m157
   exact m21
  refine bJ (Kp [6,8,10,13] U (Sr (Ru 3 U (Bs 180 U (λb0Z=>?_) λb0Z=>?_))))
  ·refine Ru 9 U (JL.fail jK U U (f8) zW U (λa8X=>by cases a8X) (λa8X h45 Rp=>?_))
   replace J9:=J9.mono Rp
   replace hC:=hC.mono Rp
   replace hl:=hl.mono Rp
   replace hT:=hT.mono Rp
   exact m16
  refine Ru 1 U (bz U U  (aG fN U zV U) U ?_);refine Ru 3 U (Bs 185 U (λb0Y=>?_) λb0Y=>?_)
  ·refine Ru 4 U (JL.fail jK U U (f8) zW U (λa8W=>by cases a8W) (λa8W h47 Ro=>?_))
   replace J9:=J9.mono Ro
   replace hC:=hC.mono Ro
   replace hl:=hl.mono Ro
   replace hT:=hT.mono Ro
   exact m16
  refine Ru 1 U (bz U U  (aG fN U zV U) U ?_);refine Ru 2 U (JL.fail jK U U (f8) zW U (λa6q h48 Ns=>?_) (λa6q h48 Ns=>?_))
  ·try simp only [a_,xL,yd,ym,yK,ne_eq,xM] at a6q
   have hN:D4 (d+1) l p en=.error (p,34):=(by rw [eJ hH,hK,gw xE];simp only;rw [xC (by simp_all<;>omega)]);exact m107
  try simp only [a_,xL,yd,ym,yK,ne_eq,xM] at a6q
  replace J9:=J9.mono Ns
  replace hC:=hC.mono Ns
  replace hl:=hl.mono Ns
  replace hT:=hT.mono Ns
  exact m16
theorem Z2 (l:LB) (a:Nat):l.foldl (λa b=>a*256+b.toNat) a=a*256 ^ l.length+BZ l:=by
 unfold BZ
 induction l generalizing a with
 |nil=>simp
 |cons x r ih =>
  simp only [Cm,aw,Jt,A0];rw [ih (a*256+x.toNat),ih x.toNat,yh,D'];have:a*256*256 ^ r.length=a*(256 ^ r.length*256):=by rw [Ds,zP 256]
  omega
theorem nU (x:UInt8) (r:LB):BZ (x::r)=x.toNat*256 ^ r.length+BZ r:=by
 have:=Z2 r x.toNat;unfold BZ at *;exact m109
theorem rV (l:LB):BZ l<256 ^ l.length:=by
 have:=pU l l.length;rwa [xK] at this
theorem a06 (k n:Nat):BZ (be k n)=n % 256 ^ k:=by
 induction k with
 |zero=>simp [be,BZ,Lx]
 |succ k ih =>
  rw [be,nU,ih,lr,Nat.mod_pow_succ];simp only [xZ,show(2:Nat) ^ 8=256 from rfl];rw [zP];omega
theorem a7m (k a n:Nat):be k (a*256 ^ k+n)=be k n:=by
 induction k generalizing a with
 |zero=>rfl
 |succ k ih =>
  have h1:a*256 ^ (k+1)+n=(a*256)*256 ^ k+n:=by rw [yh,Ds,zP 256]
  have hp:0<256 ^ k:=G7 yD;simp only [be];rw [h1,ih];congr 1;rw [zP (a*256),Nat.mul_add_div hp];apply zh.1;simp only [xZ];omega
theorem a09 (l:LB):be l.length (BZ l)=l:=by
 induction l with
 |nil=>rfl
 |cons x r ih =>
  have hp:0<256 ^ r.length:=G7 yD;have yJ:=rV r;simp only [aw,be];rw [nU,a7m,ih];congr 1;rw [zP x.toNat,Nat.mul_add_div hp,BP yJ];simp
theorem a8r (n:Nat) (h:n<4294967296):EV n<=4/\n<256 ^ EV n/\(128<=n->0<n / 256 ^ (EV n-1)):=by
 unfold EV
 (repeat' split)<;>refine⟨by omega,by simp;omega,λhh=>?_⟩<;>first|omega|(simp;omega)
theorem a5V (n k:Nat) (h1:1<=k) (h4:k<=4) (yJ:n<256 ^ k) (h0:0<n / 256 ^ (k-1)):EV n=k:=by
 have:k=1\/k=2\/k=3\/k=4:=by omega
 rcases this with rfl|rfl|rfl|rfl<;>simp at yJ h0<;>unfold EV<;>(repeat' split)<;>omega
theorem oK {a b l:LB}{p:Nat}(h:a++b <+: l.drop p):a <+: l.drop p/\b <+: l.drop (p+a.length):=by
 obtain⟨t,ht⟩:=h;refine⟨⟨b++t,by rw [<- ht,xW]⟩,⟨t,?_⟩⟩;rw [<- Hj,<- ht,xW,List.drop_left]
theorem a1D {b l:LB}{p:Nat}(h:b <+: l.drop p):b=[]\/p+b.length<=l.length:=by
 have:=h.length_le;rw [aM] at this;cases b with
 |nil=>exact .inl U
 |cons x r=>simp only [aw] at *;exact .inr xE
theorem oL {x:UInt8}{r l:LB}{p:Nat}(h:x::r <+: l.drop p):xF l p=x.toNat/\p<l.length/\r <+: l.drop (p+1):=by
 have h2:=(oK (a:=[x]) (b:=r) h).2;have hl:=a1D h;simp only [aw,reduceCtorEq,false_or] at hl;refine⟨?_,by omega,h2⟩;obtain⟨t,ht⟩:=h;have:l[p]?=some x:=by
  have:=congrArg (·[0]?) ht;simp only [xX,ze,yC,DY] at this;exact this.symm
 simp [xF,List.getD,this]
theorem QD {b l:LB}{p:Nat}(h:b <+: l.drop p):Aq l p (p+b.length)=b:=by
 unfold Aq;rw [show p+b.length-p=b.length by omega];exact(List.prefix_iff_eq_take.1 h).symm
theorem mT {p q:Nat}(h:p<=q) (h2:q<=l.length):(Aq l p q).length=q-p:=by
 unfold Aq;simp;omega
theorem jb {p q r:Nat}(h:p<=q) (h2:q<=r):Aq l p q++Aq l q r=Aq l p r:=by
 unfold Aq;have e:l.drop q=(l.drop p).drop (q-p):=by rw [Hj];congr 1;omega
 have e2:r-p=(q-p)+(r-q):=by omega
 rw [e,e2,List.take_add]
theorem tK {p:Nat}(h:p<l.length):Aq l p (p+1)=[UInt8.ofNat (xF l p)]:=by
 unfold Aq;rw [show p+1-p=1 by omega,aL h,A7,EZ,<- bW l p h];simp
theorem Y' (n:Nat):1<=(EL n).length:=by unfold EL;split<;>simp
theorem WZ {n p e:Nat}(h:EL n <+: l.drop p) (he:p+(EL n).length<=e) (hn:n<4294967296):ES l p e=.ok (n,p+(EL n).length):=by
 have P6:=Y' n;unfold EL at *;split at h
 ·rename_i h1;rw [xD h1] at *;obtain⟨hb,hp,_⟩:=oL h;have e1:(UInt8.ofNat n).toNat=n:=by simp;omega
  rw [e1] at hb;unfold ES;rw [xC (by simp at he;omega),xD xE,hb];rfl
 ·rename_i h1;rw [xC h1] at *;obtain⟨h4,yJ,h0⟩:=a8r n hn;have hb6:=mD n;obtain⟨hb,hp,hr⟩:=oL h;have e1:(UInt8.ofNat (128+EV n)).toNat=128+EV n:=by simp;omega
  rw [e1] at hb;simp only [aw,lr] at he |-
  have ht:(l.drop (p+1)).take (xF l p-128)=be (EV n) n:=by
   have:=List.prefix_iff_eq_take.1 hr;rw [lr] at this;rw [hb,show 128+EV n-128=EV n by omega,<- this]
  have hv:BZ (be (EV n) n)=n:=by rw [a06,zx yJ]
  unfold ES;rw [xC xE,xC xE,xC xE,xC xE,ht,hv,xC (by rw [hb,show 128+EV n-128-1=EV n-1 by omega];have:=h0 xE;omega)];rw [hb,show p+1+(128+EV n-128)=p+(EV n+1) by omega]
theorem a1r {p e n q:Nat}(h:ES l p e=.ok (n,q)) (he:e<=l.length):Aq l p q=EL n/\n<4294967296:=by
 unfold ES at h;split at h
 ·cases h
 ·rename_i h0;have hb:=bn l p;split at h
  ·rename_i h1;injection h with h;injection h with h2 h3;subst h2 h3;refine⟨?_,by omega⟩;rw [tK xE];unfold EL;rw [xD h1]
  ·rename_i h1;split at h
   ·cases h
   ·split at h
    ·cases h
    ·split at h
     ·cases h
     ·rename_i h2 h3 h4;injection h with h;injection h with h5 h6;obtain⟨k,hk⟩:∃ k,xF l p-128=k:=⟨_,U⟩;rw [hk] at h2 h3 h4 h5 h6;have Nz:((l.drop (p+1)).take k).length=k:=by simp;omega
      have hvl:=rV ((l.drop (p+1)).take k);rw [Nz,h5] at hvl;rw [h5] at h4;have h41:1<=k/\k<=4:=by omega
      have hpk:(256:Nat) ^ k<=256 ^ 4:=yf yD h41.2;have P4:=a5V n k h41.1 h41.2 hvl xE;refine⟨?_,by have:(256:Nat) ^ 4=4294967296:=yD;omega⟩;have hbe:=a09 ((l.drop (p+1)).take k);rw [Nz,h5] at hbe;rw [<- h6,<- jb (q:=p+1) xE xE,tK xE];unfold EL;rw [xC xE,P4,hbe,show xF l p=128+k by omega];unfold Aq;rw [show p+1+k-(p+1)=k by omega];rfl
theorem VV {c t:Int}(hc:c=0\/c=2) (ht:0<=t/\t<=30):(UInt8.ofNat (Ee c t k)).toNat / 64=c.toNat/\(UInt8.ofNat (Ee c t k)).toNat % 32=t.toNat/\decide ((UInt8.ofNat (Ee c t k)).toNat / 32 % 2=1)=k:=by
 have h:(UInt8.ofNat (Ee c t k)).toNat=Ee c t k:=by
  simp only [xZ];unfold Ee;cases k<;>simp<;>omega
 rw [h];unfold Ee;cases k<;>simp<;>omega
theorem pi {c t:Int}(h:B6 c t k=true):(c=0\/c=2)/\0<=t/\t<=30:=by
 unfold B6 at h;simp only [xB,yu,a_] at h;omega
theorem a02 (b:Nat) (hb:b<256):UInt8.ofNat (Ee (b / 64:Nat) (b % 32:Nat) (decide (b / 32 % 2=1)))=UInt8.ofNat b:=by
 congr 1;unfold Ee;by_cases h:b / 32 % 2=1
 ·simp [h];omega
 ·simp [h];omega
theorem Tu {c t:Int}{n p e:Nat}(hm:B6 c t k=true) (h:BM c t k n <+: l.drop p) (he:p+(BM c t k n).length+n<=e) (hn:n<4294967296) :
 Gb l p e true=.ok (c.toNat,t.toNat,k,n,p+(BM c t k n).length):=by
 obtain⟨hc,ht⟩:=pi hm;obtain⟨hb,hp,hr⟩:=oL h;obtain⟨e1,e2,e3⟩:=VV (k:=k) hc ht;have ec:((c.toNat:Nat):Int)=c:=zk xE;have et:((t.toNat:Nat):Int)=t:=zk xE;have hlen:(BM c t k n).length=(EL n).length+1:=rfl;have hS:=WZ (e:=e) hr xE hn;unfold Gb;rw [hb,e1,e2,e3,ec,et,xC xE,xC (by rw [hm];decide),hS];simp only;rw [xC xE,xC yD,hlen];congr 5;omega
theorem sG {p e c t n q:Nat}{k ok:Bool}(h:Gb l p e ok=.ok (c,t,k,n,q)) (he:e<=l.length):B6 c t k=true/\Aq l p q=BM c t k n/\n<4294967296:=by
 have hle:=nu h;unfold Gb at h;split at h
 ·cases h
 ·split at h
  ·cases h
  ·rename_i h0 h1;split at h
   ·cases h
   ·rename_i n' q' hs;split at h
    ·cases h
    ·split at h
     ·cases h
     ·injection h with h;injection h with h2 h3;injection h3 with h3 h4;injection h4 with h4 h5;injection h5 with h5 h6;subst h5 h6;have hi:=a1r hs he;have hq:=nr hs;rw [h2,h3,h4] at h1;refine⟨by simpa using h1,?_,hi.2⟩;rw [<- jb (q:=p+1) xE xE,tK xE,hi.1,<- h2,<- h3,<- h4];unfold BM;rw [a02 _ (bn l p)];rfl
variable{ks:LN}
theorem Nd.X8 {set:Bool}{last:Option LB}{acc B:LB}(h:Nd.B0 set ks last acc=some B):∃ r,B=acc++r:=by
 induction ks generalizing last acc with
 |nil=>simp only [Nd.B0,au] at h;exact⟨[],by simp [h]⟩
 |cons x r ih =>
  simp only [Nd.B0] at h;split at h
  ·cases h
  ·split at h
   ·cases h
   ·obtain⟨r',hr⟩:=ih h;exact⟨_,by rw [hr,xW]⟩
theorem TC {c t:Int}{bs:LB}(h:EU c t k bs ks=true):B6 c t k=true/\(k=true->bs=[])/\(k=false->ks=[]/\(decide (c=2)||AJ t bs)=true):=by
 unfold EU at h;simp only [xB,yd,ym] at h;obtain⟨h1,h2,h3,h4⟩:=h;have hc:=(pi h1).1;refine⟨h1,λhk=>?_,λhk=>?_⟩
 ·subst hk;exact xI (by simpa using h2)
 ·subst hk;refine⟨xI (by simpa using h3),?_⟩;rcases hc with hc|hc
  ·subst hc;simpa using h4
  ·simp [hc]
theorem oE:∀ (d:Nat) (x:Nd) (b l:LB) (p e:Nat),x.put=some b->x.rk<=d->b.length<4294967296->b <+: l.drop p->p+b.length<=e->D4 d l p e=.ok (x,p+b.length):=by
 intro d
 induction d with
 |zero=>intro x b l p e _ hr;cases x;simp [Nd.rk] at hr
 |succ d ih =>
  intro x b l p e hb hr hl b0J he;cases x with
  |mk c t k bs ks =>
  simp only [Nd.put] at hb;split at hb
  ·rename_i zt;cases hin:Nd.B0 (decide (c=0)&&decide (t=17)) ks none bs with
   |none=>simp [hin] at hb
   |some inb =>
    simp only [hin,AI,au] at hb;subst hb;simp only [Nd.rk] at hr;obtain⟨hm,hk1,hk2⟩:=TC zt;obtain⟨hcc,htt⟩:=pi hm;have ec:((c.toNat:Nat):Int)=c:=zk xE;have et:((t.toNat:Nat):Int)=t:=zk xE;rw [aF] at hl he |-
    obtain⟨hp1,Me⟩:=oK b0J;have hH:=Tu (e:=e) hm hp1 xE xE;cases k with
    |false =>
     obtain⟨hks,hv⟩:=hk2 U;subst hks;simp only [Nd.B0,au] at hin;subst hin;rw [jk hH,QD Me,ec,et,xD (by rw [show(decide (c.toNat=2))=decide (c=2) from y7.2 xE];exact hv)];congr 2;omega
    |true =>
     have RG:=hk1 U;subst RG;have key:∀ (r:LN) (f q last:Nat) (acc:LN) (rr:Bool) (lo:Option LB) (ab rb:LB),Nd.CO r<=d->Nd.B0 (decide (c=0)&&decide (t=17)) r lo ab=some (ab++rb)->rb <+: l.drop q->rb.length<4294967296->rb.length<=f ->
      (∀ z,lo=some z->Aq l last q=z/\acc≠[])->(lo=none->acc=[])->((decide (c=0)&&decide (t=17))=true->rr=true) ->
      ∃ r',GQ (D4 d l) l (q+rb.length) f q acc rr last=.ok (acc++r,r',q+rb.length)/\((decide (c=0)&&decide (t=17))=true->r'=true):=by
      intro r
      induction r with
      |nil =>
       intro f q last acc rr lo ab rb _ h1 _ _ _ _ _ h6;simp only [Nd.B0,au] at h1;have:rb=[]:=by simpa using h1
       subst this;refine⟨rr,?_,h6⟩;rw [gw (by simp)];simp
      |cons y r ihr =>
       intro f q last acc rr lo ab rb h0 h1 h2 h3 h4 h5 MD h6;simp only [Nd.CO] at h0;simp only [Nd.B0] at h1;split at h1
       ·cases h1
       ·rename_i yb hyb;split at h1
        ·cases h1
        ·rename_i hab;obtain⟨rb',hrb⟩:=Nd.X8 h1;have b0I:rb=yb++rb':=by rw [xW] at hrb;exact List.append_cancel_left hrb
         subst b0I;rw [aF] at h3 h4 |-
         have hyl:=(dA _ y yb (aB _) hyb).1;obtain⟨g1,g2⟩:=oK h2;obtain⟨f',rfl⟩:∃ f',f=f'+1:=⟨f-1,by omega⟩;have hy:=ih y yb l q (q+(yb.length+rb'.length)) hyb xE xE g1 xE;have hcy:Aq l q (q+yb.length)=yb:=QD g1;rw [nt xE hy];rw [<- xW] at h1;obtain⟨r',k1,k2⟩:=ihr f' (q+yb.length) q (acc++[y]) (rr&&(decide (acc.length=0)||decide (Go.Lib.compareBytes (Aq l last q) (Aq l q (q+yb.length))<=0))) (some yb) (ab++yb) rb' xE h1 g2 xE xE
          (λz hz=>by cases hz;exact⟨hcy,by simp⟩) (λhz=>by cases hz) (λhs=>by
           rw [h6 hs,xQ,hcy];cases lo with
           |none=>rw [MD rfl];rfl
           |some z =>
            obtain⟨hz1,V3⟩:=h5 z U;rw [hz1];rw [hs,xQ] at hab;simp only [GM,a_] at hab;rw [ae (show Go.Lib.compareBytes z yb<=0 by omega),Jy])
         refine⟨r',?_,k2⟩;rw [CG] at k1;rw [k1,xW];rfl
     obtain⟨r',k1,k2⟩:=key ks inb.length (p+(BM c t true inb.length).length) (p+(BM c t true inb.length).length) [] true none [] inb xE (by simpa using hin) Me xE (aB _) (λz hz=>by cases hz) (λ_=>rfl) (λ_=>rfl);rw [eJ hH,k1];simp only [xP];rw [xD,ec,et]
     ·congr 2;omega
     ·by_cases hs:(decide (c=0)&&decide (t=17))=true
      ·rw [k2 hs];rfl
      ·simp only [xB,a_,not_and] at hs;by_cases hc0:c=0
       ·rw [ae (show t.toNat≠17 by have:=hs hc0;omega)];simp
       ·rw [ae (show c.toNat≠0 by omega)];simp
  ·cases hb
theorem Xy {c t:Int}{bs:LB}(hm:B6 c t k=true) (h1:k=true->bs=[]) (h2:k=false->ks=[]/\(decide (c=2)||AJ t bs)=true):EU c t k bs ks=true:=by
 unfold EU;have hc:=(pi hm).1;rw [hm];cases k with
 |true=>rw [h1 rfl];simp
 |false =>
  obtain⟨h3,h4⟩:=h2 U;subst h3;rcases hc with hc|hc
  ·subst hc;simpa using h4
  ·simp [hc]
theorem oF:∀ (d:Nat) (l:LB) (p e:Nat) (x:Nd) (q:Nat),e<=l.length->D4 d l p e=.ok (x,q)->x.put=some (Aq l p q)/\x.rk<=d:=by
 intro d
 induction d with
 |zero=>intro l p e x q _ h;simp only [D4] at h;split at h<;>cases h
 |succ d ih =>
  intro l p e x q he h;simp only [D4] at h;split at h
  ·cases h
  ·rename_i c t k n q0 hh;have h0:=nu hh;obtain⟨hm,Ge,hn⟩:=sG hh he;split at h
   ·rename_i hk;subst hk;split at h
    ·rename_i hv;injection h with h;injection h with h1 h2;subst h1 h2;have zt:EU c t false (Aq l q0 (q0+n)) []=true:=Xy hm (λhh=>by cases hh) (λ_=>⟨U,by rw [show decide ((c:Int)=2)=decide (c=2) from y7.2 xE];exact hv⟩);refine⟨?_,by simp [Nd.rk,Nd.CO]⟩;simp only [Nd.put,zt,if_true,Nd.B0,AI];rw [mT xE xE,show q0+n-q0=n by omega,<- Ge,jb xE xE]
    ·cases h
   ·rename_i hk;have hk:k=true:=by simpa using hk
    subst hk;have key:∀ (f q1:Nat) (acc:LN) (rr:Bool) (last:Nat) (ks:LN) (r':Bool) (q2:Nat) (lo:Option LB) (set:Bool),q1<=q0+n->last<=q1->q0+n<=q1+f->GQ (D4 d l) l (q0+n) f q1 acc rr last=.ok (ks,r',q2)->(set=true->r'=true) ->
     (∀ z,lo=some z->Aq l last q1=z/\acc≠[]) ->
     ∃ r,ks=acc++r/\Nd.CO r<=d/\q2=q0+n/\∀ ab,Nd.B0 set r lo ab=some (ab++Aq l q1 (q0+n)):=by
     intro f
     induction f with
     |zero =>
      intro q1 acc rr last ks r' q2 lo set h1 h2 h3 h4 h5 h6;simp only [GQ] at h4;exact m81
     |succ f ihf =>
      intro q1 acc rr last ks r' q2 lo set h1 h2 h3 h4 h5 h6;simp only [GQ] at h4;split at h4
      ·exact m81
      ·split at h4
       ·cases h4
       ·rename_i y q3 hy;have hyl:=iL d l q1 (q0+n) y q3 hy;obtain⟨hyp,hyr⟩:=ih l q1 (q0+n) y q3 xE hy;have a8M:∀ (f q1:Nat) (acc:LN) (rr:Bool) (last:Nat) (ks:LN) (r':Bool) (q2:Nat),GQ (D4 d l) l (q0+n) f q1 acc rr last=.ok (ks,r',q2)->r'=true->rr=true:=by
         intro f
         induction f with
         |zero=>intro q1 acc rr last ks r' q2 h hr;simp only [GQ] at h;injection h with h;injection h with _ h;injection h with h _;rw [h];exact hr
         |succ f ihm =>
          intro q1 acc rr last ks r' q2 h hr;simp only [GQ] at h;split at h
          ·injection h with h;injection h with _ h;injection h with h _;rw [h];exact hr
          ·split at h
           ·cases h
           ·have:=ihm _ _ _ _ _ _ _ h hr;simp only [xB] at this;exact this.1
        have hr5:=λhs=>a8M _ _ _ _ _ _ _ _ h4 (h5 hs);obtain⟨r,g1,g2,g3,g4⟩:=ihf q3 (acc++[y]) _ q1 ks r' q2 (some (Aq l q1 q3)) set xE xE xE h4 h5 (λz hz=>by cases hz;exact⟨U,by simp⟩);refine⟨y::r,by rw [g1,xW];rfl,by simp only [Nd.CO];omega,g3,λab=>?_⟩;simp only [Nd.B0,hyp];rw [xC,g4,xW,jb xE xE];intro hs;simp only [xB] at hs;have:=hr5 hs.1;cases lo with
        |none=>simp [GM] at hs
        |some z =>
         obtain⟨hz1,V3⟩:=h6 z U;simp only [GM,a_] at hs;rw [hz1] at this;have D5:¬ acc.length=0:=λhh=>V3 (xI hh);simp only [xB,yu,a_] at this;omega
    split at h
    ·cases h
    ·rename_i ks r p1 hK;split at h
     ·rename_i hr;injection h with h;injection h with h1 h2;subst h1 h2;obtain⟨r2,g1,g2,g3,g4⟩:=key n q0 [] true q0 ks r p1 none (decide ((c:Int)=0)&&decide ((t:Int)=17)) xE xE xE hK (λhs=>by
       simp only [xB,yu,a_] at hs hr;rcases hr with hr|hr
       ·exact hr
       ·omega) (λz hz=>by cases hz)
      simp only [xP] at g1;subst g1 g3;have zt:EU c t true [] ks=true:=Xy hm (λ_=>rfl) (λhh=>by cases hh);refine⟨?_,by simp only [Nd.rk];omega⟩;have hp:=g4 [];simp only [xP] at hp;simp only [Nd.put,zt,if_true,hp,AI];rw [mT xE xE,show q0+n-q0=n by omega,<- Ge,jb xE xE]
     ·cases h
theorem Qy {p e:Nat}{ok:Bool}{a c:Int}(h:Gb l p e ok=.error (a,c)):a=p/\c≠0:=by
 unfold Gb at h;split at h
 ·exact m31
 ·split at h
  ·exact m31
  ·split at h
   ·rename_i c' hs;injection h with h;injection h with h1 h2;refine⟨h1.symm,?_⟩;subst h2;unfold ES at hs
    (repeat' split at hs)<;>first|(injection hs with hs;omega)|cases hs
   ·split at h
    ·exact m31
    ·split at h
     ·exact m31
     ·cases h
theorem X1:∀ (d:Nat) (l:LB) (p e:Nat) (a c:Int),p<=e->D4 d l p e=.error (a,c)->p<=a/\a<=e/\c≠0:=by
 intro d
 induction d with
 |zero =>
  intro l p e a c V8 h;simp only [D4] at h;split at h
  ·rename_i er hh;injection h with h;subst h;have:=Qy hh;omega
  ·exact m31
 |succ d ih =>
  intro l p e a c V8 h;simp only [D4] at h;split at h
  ·rename_i er hh;injection h with h;subst h;have:=Qy hh;omega
  ·rename_i c' t k n q hh;have h0:=nu hh;split at h
   ·split at h
    ·cases h
    ·exact m31
   ·have key:∀ (f q1:Nat) (acc:LN) (rr:Bool) (last:Nat),p<=q1->q1<=q+n->GQ (D4 d l) l (q+n) f q1 acc rr last=.error (a,c)->p<=a/\a<=e/\c≠0:=by
     intro f
     induction f with
     |zero=>intro q1 acc rr last _ _ h;simp only [GQ] at h;cases h
     |succ f ihf =>
      intro q1 acc rr last g1 g2 h;simp only [GQ] at h;split at h
      ·cases h
      ·split at h
       ·rename_i er hy;injection h with h;subst h;have:=ih l q1 (q+n) a c g2 hy;omega
       ·rename_i y q3 hy;have:=iL d l q1 (q+n) y q3 hy;exact ihf _ _ _ _ xE xE h
    split at h
    ·rename_i er hK;injection h with h;subst h;exact key _ _ _ _ _ xE xE hK
    ·split at h
     ·cases h
     ·exact m31
def NZ:Nd:=.mk 0 0 false [] []
def xN (l:LB):Nd×Int×Int :=
 if 16777216<l.length then(NZ,0,2) else match D4 32 l 0 l.length with
  |.error (a,c)=>(NZ,a,c)
  |.ok (x,q)=>if q<l.length then(NZ,q,35) else(x,0,0)
theorem nY (x:Nd):(x.wr.2=0/\x.put=some x.wr.1/\x.rk<=32/\x.wr.1.length<=16777216)\/x.wr.2≠0:=by
 unfold Nd.wr;cases hx:x.put with
 |none=>exact .inr (by simp)
 |some b =>
  simp only;split
  ·exact .inr (by simp)
  ·split
   ·exact .inr (by simp)
   ·exact .inl ⟨U,U,by omega,by simp;omega⟩
theorem gu (h:x.wr.2=0):xN x.wr.1=(x,0,0):=by
 rcases nY x with ⟨_,h1,h2,h3⟩|hh
 ·unfold xN;rw [xC xE,oE 32 x x.wr.1 x.wr.1 0 x.wr.1.length h1 h2 xE (by simp) xE];simp
 ·exact absurd h hh
theorem tZ {a:Int}(h:xN l=(x,a,0)):x.wr=(l,0):=by
 unfold xN at h;split at h
 ·exact m154
 ·split at h
  ·rename_i a' c hh;have:=X1 32 l 0 l.length a' c xE hh;exact m154
  ·rename_i y q hh;split at h
   ·exact m154
   ·injection h with h _;subst h;have hle:=iL 32 l 0 l.length y q hh;obtain⟨h1,h2⟩:=oF 32 l 0 l.length y q (aB _) hh;have hq:q=l.length:=by omega
    subst hq;have hc:Aq l 0 l.length=l:=by simp [Aq]
    rw [hc] at h1;unfold Nd.wr;rw [h1];simp only;rw [xC xE,xC xE]
theorem Nd.X6:∀ (n:Nat) (x:Nd) (b:LB),x.rk<=n->x.put=some b->x.sz<=b.length:=by
 intro n
 induction n with
 |zero=>intro x b hx;cases x;simp [Nd.rk] at hx
 |succ n ih =>
  intro x b hx hb;cases x with
  |mk c t k bs ks =>
   simp only [Nd.rk] at hx;have key:∀ (l:LN) (set:Bool) (last:Option LB) (acc b:LB),Nd.CO l<=n->Nd.B0 set l last acc=some b->acc.length+Nd.yP l<=b.length:=by
    exact m32
   exact m47
theorem a7I {b:LB}(h:x.wr=(b,0)):x.sz<=b.length/\b.length<=16777216:=by
 rcases nY x with ⟨_,h1,h2,h3⟩|hh
 ·rw [h] at h1 h3;exact⟨Nd.X6 _ x b (aB _) h1,h3⟩
 ·rw [h] at hh;exact absurd U hh
theorem eE (u:p:=by first|rfl):p:=u
theorem xy (u:p:=by repeat first|exact Dt.here|apply Dt.there):p:=u
theorem a7x:AF prog 206=some (some 2):=by kernel_rfl
theorem q_:AF prog 36=some (some 2):=by kernel_rfl
theorem a9w:yH prog 74=true:=by kernel_rfl
theorem a5x:OO prog 125=some ([.slice none 0 0,.int .i64 0],[(0,1),(1,1)]):=by kernel_rfl
theorem a4n:CH prog 206=some [.int .i64 0,.int .i64 0]:=by kernel_rfl
theorem a3n:CH prog 36=some [.int .i64 0,.int .i64 0]:=by kernel_rfl
theorem xG.typeAssert {f:Fr}{S:AH}{L:LE}{ty X T:TypeId}{xo:Operand}{v:Value}(hT:niT f.P T=true) (hx:ev S xo=some (.iface T v)):xG f S h L (.typeAssert xo X T true) ty (.tuple #[v,.bool true]):=λa w s _ _ _ _=>by
 unfold niT at hT;split at hT<;>try cases hT
 rename_i d hd hu;cases d<;>first|(exact(hd _ rfl).elim)|simp [execOp,s.eval hx,Instr.typeAssert,run_underlying hu]
theorem UD {a c:Int}:Pure prog 74 [gvn a c] h (.agg #[.int .i64 a,.int .i64 c]):=by
 unfold gvn;refine Pure.ofV ?_;refine aQ func74 U ntmps74 U (λe he=>?_);refine ba [(0,_)] y9 ?_;refine Sr (bp a3n U (λb1=>?_));refine aj (Sr (Ru 1 U (aA (xG.typeAssert OV U) U ?_)));refine Ru 3 U (bp a4n U (λb2=>?_));refine aZ a7x U U zW eE (by first|rfl|assumption) eE ?_;refine Ru 1 U (Nk [4,3,2,0] U (aK (Sr (Ru 2 U (aj (Cs U (λDv=>?_) λDv=>?_))))))
 ·refine Rg (Ru 1 U (JL.panic U ?_));exact absurd Dv yD
 refine aO (Kp [3,2] U (Sr (Ru 1 U (aA (bK q_ U zV eE) U ?_))));refine aZ q_ U U zW eE (by first|rfl|assumption) eE ?_;exact aj (J.Tp (bL U U q_ zV eE) U)
theorem a2s:ifT prog 20=true:=by kernel_rfl
def PW:Code->Code
 |.seq _ c=>c
 |c=>c
theorem wN {e:Env}{L:LE}{bN bF:Nat}:J ⟨prog,e,9,λ_ _ _=>False,λ_ _ _ _=>False⟩ (PW (Tryz.f73.body.getD .skip)) (λ_ h1 L1=>h1=h/\L1=L) Ei [(2,.nilIface),(0,.pointer (some ⟨bN,0,none⟩)),(1,.pointer (some ⟨bF,0,none⟩))] h L:=by
 skip
 exact m184
theorem wM {e:Env}{L:LE}{bN bF:Nat}{a c:Int}{csN csF:LV}(hN:csN.length=5) (hF:csF.length=2):J ⟨prog,e,9,λ_ _ _=>False,λ_ _ _ _=>False⟩ (PW (Tryz.f73.body.getD .skip))
 (λ_ h1 L1=>h1=h/\L1=.yY bF 36 [.int .i64 a,.int .i64 c]::.yY bN 33 [.int .i64 0,.int .i64 0,.bool false,.slice none 0 0,.slice none 0 0]::L) Ei [(2,gvn a c),(0,.pointer (some ⟨bN,0,none⟩)),(1,.pointer (some ⟨bF,0,none⟩))] h (.yY bF 36 csF::.yY bN 33 csN::L):=by
 skip
 refine Sr (Ru 1 U (aA (xG.Hc a2s U) U ?_));refine aj (bP U (Rg (aA (bi (cs:=[.int .i64 0,.int .i64 0,.bool false,.slice none 0 0,.slice none 0 0]) n8 U U) U ?_)));refine Ru 1 U (cj a9w U (UD) U ?_);refine aZ ci U U zW lx ly Dn ?_;refine aZ q_ U U zW eE (by first|rfl|assumption) eE ?_;exact aj (⟨U,U⟩)
abbrev rdD (bN bF:Nat):Deferred:=⟨.fn (.func 73) #[.pointer (some ⟨bN,0,none⟩),.pointer (some ⟨bF,0,none⟩)],#[]⟩
section
variable {w0:World}{h0 h:Part}{S:AH}{L L1 L2:LE}{bN bF:Nat}{csN csF:LV}{R:Ending->Part->LE->Prop}
theorem qK (w:World):(invoke (rdD bN bF).target (rdD bN bF).args).run prog w=.ok (.enter 73 #[.pointer (some ⟨bN,0,none⟩),.pointer (some ⟨bF,0,none⟩)]) w:=by
 have:=eF (P:=prog) (F:=73) cq #[.pointer (some ⟨bN,0,none⟩),.pointer (some ⟨bF,0,none⟩)] w;simp [invoke,rdD,this]
theorem oC (h2:look S 2=some (.pointer (some ⟨bN,0,none⟩))) (h3:look S 3=some (.pointer (some ⟨bF,0,none⟩))) (uN:Dt (.yY bN 33 csN) L L1) (uF:Dt (.yY bF 36 csF) L1 L2) (hN:csN.length=5) (hF:csF.length=2)
 (hR:R (.returned (.tuple #[.agg csN.toArray,.agg csF.toArray])) h []) :
 G2 prog ⟨w0,(·∈keys []),h0,[rdD bN bF]⟩ 33 Tryz.f24 (GN w0 h0 [] R) (rdD bN bF) .returning S h L:=λa w s=>by
 have Gm:=s.ok.perm (uN.perm.trans (uF.perm.cons _));refine leaves_cons (by simp) (qK w) ((iG (e:=⟨w0,(·∈keys []),h0,[]⟩) (vs:=[.pointer (some ⟨bN,0,none⟩),.pointer (some ⟨bF,0,none⟩)]) func73 U ntmps73 U U U U .none (Gm.ds []) U (ba [(2,_),(0,_),(1,_)] y9 wN)).mono ?_);rintro e u w' ⟨⟨v,rfl⟩,rfl,S',h1,L1,⟨rfl,rfl⟩,ok⟩;have s':Sat ⟨w0,(·∈keys []),h0,[rdD bN bF]⟩ 33 S h1 _ a w':=s.with (ok.ds _);exact⟨_,B7.a48 U h2 ci (aC ..) hN h3 q_ (aE _ (aC ..)) hF a w' s',h1,[],hR,ok.drop (DZ _)⟩
theorem a5g {a c:Int}(h2:look S 2=some (.pointer (some ⟨bN,0,none⟩))) (h3:look S 3=some (.pointer (some ⟨bF,0,none⟩))) (uF:Dt (.yY bF 36 csF) L L1) (uN:Dt (.yY bN 33 csN) L1 L2) (hN:csN.length=5) (hF:csF.length=2)
 (hR:R (.returned (.tuple #[.agg #[.int .i64 0,.int .i64 0,.bool false,.slice none 0 0,.slice none 0 0],.agg #[.int .i64 a,.int .i64 c]])) h []) :
 G2 prog ⟨w0,(·∈keys []),h0,[rdD bN bF]⟩ 33 Tryz.f24 (GN w0 h0 [] R) (rdD bN bF) (.panicking [{ v:=gvn a c,recovered:=false }]) S h L:=λac w s=>by
 have Gm:=s.ok.perm (uF.perm.trans (uN.perm.cons _));refine leaves_cons (by simp) (qK w) ((iG (e:=⟨w0,(·∈keys []),h0,[]⟩) (vs:=[.pointer (some ⟨bN,0,none⟩),.pointer (some ⟨bF,0,none⟩)]) func73 U ntmps73 U U U U .some (Gm.ds []) U (ba [(2,_),(0,_),(1,_)] y9 (wM hN hF))).mono ?_);rintro e u w' ⟨⟨v,rfl⟩,rfl,S',h1,L1,⟨rfl,rfl⟩,ok⟩;have s':Sat ⟨w0,(·∈keys []),h0,[rdD bN bF]⟩ 33 S h1 _ ac w':=s.with (ok.ds _);exact⟨_,B7.a48 U h2 ci (aE _ (aC ..)) U h3 q_ (aC ..) U ac w' s',h1,[],hR,ok.drop (DZ _)⟩
end
theorem a1o {a:OA}{c:Nat}(hl:A3 DJ 1 h a c l) (hT:D_ h) :
 F1 prog 24 [.slice a l.length c] h (λv h'=>∃ cs,v=.tuple #[.agg (List.toArray cs),.agg #[.int .i64 (xN l).2.1,.int .i64 (xN l).2.2]]/\B9 h' cs (xN l).1):=by
 have hb:=hl.GX;refine Fn.Yk func24 U ntmps24 U U (λw0=>?_);refine J.region ?_;refine bp iQ U (λbN=>?_);refine bp a3n U (λbF=>?_);refine aj ⟨_,U,?_⟩
 skip
 refine aK (Sr (Ru 3 U (aj (Cs U (λBy=>?_) λBy=>?_))))
 ·refine Sr (aA (bi (cs:=[.int .i64 0,.int .i64 0,.bool false,.slice none 0 0,.slice none 0 0]) n8 U U) U ?_);refine aA (bi (cs:=[.int .i64 0,_]) N6 U U) U ?_;refine aZ ci U U zW lx ly Dn ?_;refine aZ q_ U U zW eE (by first|rfl|assumption) eE ?_;exact Nk [3,2,0] U (dm (oC U U xy xy U U ⟨_,U,U,_,by unfold xN;rw [xD xE],by unfold xN;rw [xD xE];exact B9.of bA bA⟩))
 refine aO (Kp [3,2,0] U (Sr (Ru 1 U (aA (bi (cs:=[_,.int .i64 0]) a5x U U) U ?_))));refine JL.box U U U (λb2=>?_);refine Ru 1 U (aj (Sr (Ru 3 U (JL.Kf ZQ U (a1Y 32 l 0 l.length _ a c _ hl hT xE xE xE) HC U (λ_ _ hh=>(Dm.out hh).elim) (λch3 h3 Lo3 FU hR3=>?_) (λv3 h3 Lo3 FU hR3=>?_)))))
 ·have hR3:=Dm.pan hR3;obtain⟨xa,xc,hxe,rfl⟩:=hR3;have hLo:Lo3=[]:=(by unfold Dm at hR3;rw [hxe] at hR3;exact hR3.2);subst hLo;exact a5g U U xy xy U U ⟨_,U,U,_,by unfold xN;rw [xC xE,hxe],by unfold xN;rw [xC xE,hxe];exact B9.of bA bA⟩
 obtain⟨x,q,xcs,KR,rfl,Pg,rfl⟩:=Dm.ret hR3
 replace hl:=hl.mono FU
 replace hT:=hT.mono FU
 refine aZ ci U U zW lx ly Dn ?_;refine Nk [4,3,2,0] U (aK (Sr (Ru 3 U (aA (aG fN U zV U) U ?_))));refine Ru 3 U (Nk [24,4,3,2] U (Cs U (λJ'=>?_) λJ'=>?_))
 ·refine J.a5y ?_;refine aK (J.held ([.yY b2 125 [.slice a l.length c,.int .i64 q]]) 8 dY U (λCR=>?_));refine Tk 0 U (bi (cs:=[.int .i64 0,.int .i64 0,.bool false,.slice none 0 0,.slice none 0 0]) n8 U U) ?_;refine Tk 1 U (aY U) ?_;refine Tk 2 U (dz U) ?_;refine Tk 3 U (by first|exact bY iB rfl|exact bH iB rfl) ?_;refine Tk 4 U (aG fN U zV U) ?_;refine Tk 5 U (bi (cs:=[_,_]) N6 U U) ?_;refine Ta 6 U ?_;unfold One;refine aZ ci U U zW lx ly Dn ?_;refine aj ⟨(Dr CR),?_⟩;refine Ta 7 U ?_;unfold One;refine aZ q_ U U zW eE (by first|rfl|assumption) eE ?_;refine aj ⟨(Dr CR),?_⟩;refine dJ cq ?_;exact Kp [3,2] U (dm (oC U U xy xy U U ⟨_,U,U,_,by unfold xN;rw [xC xE,KR];simp only;rw [xD xE],by unfold xN;rw [xC xE,KR];simp only;rw [xD xE];exact B9.of bA bA⟩))
 refine aO (Sr (aA (bK ci U zV Dn) U ?_));refine aA (bi (cs:=[.int .i64 0,.int .i64 0]) N6 U U) U ?_;refine aZ ci U U zW lx ly Dn ?_;refine aZ q_ U U zW eE (by first|rfl|assumption) eE ?_;exact Nk [3,2] U (dm (oC U U xy xy Pg.M' U ⟨_,U,U,_,by unfold xN;rw [xC xE,KR];simp only;rw [xC xE],by unfold xN;rw [xC xE,KR];simp only;rw [xC xE];exact Pg⟩))
def a0e (k n:Int):Int:=if n<1 then 0 else k % n
def chain (c t:Int):Nat->Nd
 |0=>.mk 0 5 false [] []
 |i+1=>.mk c t true [] [chain c t i]
theorem ofNat_mod (n:Nat):UInt8.ofNat (n % 256)=UInt8.ofNat n:=by
 apply zh.1;simp
theorem t9 (n j:Nat) (hn:n<=140737488355328) (h0:128<=n) (h2:j<=EV n):0<n / 256 ^ j<->j<EV n:=by
 cases j with
 |zero=>have:=mD n;simp;omega
 |succ j=>exact XS n (j+1) hn xE h2
section
attribute [local irreducible] Nat.sub
theorem WN (n:Nat) (hn:n<=140737488355328):yq prog 163 [.i (n:Int)] (.bs (EL n)):=by
 have hk:=mD n;have rm:Rm:=⟨⟩;refine an func163 U ntmps163 U (λe=>?_);refine Vi (λc=>?_) (λc=>?_)
 ·refine Vr ?_;rw [show EL n=[UInt8.ofNat n] from xD xE];simp [yR]
 refine V ?_;refine Lt trP (γ:=Nat) [] (λj=>j<=EV n) (λj=>7-j) (λj=>[(0,.d (.i ((n / 256 ^ j:Nat):Int))),(3,.d (.bs (be j n)))]) (λ_=>[]) 0 xE U ?_ ⟨⟨_,U,En.i (by simp)⟩,⟨_,U,En.nb⟩,trivial⟩ trivial;intro j hj;have hgt:=t9 n j hn xE hj;have Mi:=lr j n;have hle:=Kk n (256 ^ j);refine Vi (λc2=>?_) (λc2=>?_)
 ·refine V ?_;refine⟨_,U,j+1,by omega,by omega,⟨⟨_,U,En.i (by rw [yh,<- zm];omega)⟩,⟨_,U,En.e ?_⟩,trivial⟩,trivial⟩;rw [show(((n / 256 ^ j:Nat):Int) % 256).toNat=n / 256 ^ j % 256 by omega,ofNat_mod];rfl
 ·obtain rfl:j=EV n:=by omega
  refine Vr ?_;rw [show EL n=UInt8.ofNat (128+EV n)::be (EV n) n from xC xE,Mi];rfl
instance:Cn prog 163 (type_of% @WN):=⟨@WN⟩
end
def nC (b:Nat):Int:=if 192<=b/\b<=223 then 2 else if 224<=b/\b<=239 then 3 else if 240<=b/\b<=247 then 4 else 0
def lC (b:Nat):Int:=if 192<=b/\b<=223 then 128 else if 224<=b/\b<=239 then 2048 else if 240<=b/\b<=247 then 65536 else 0
def vC (b:Nat):Int:=if 192<=b/\b<=223 then b-192 else if 224<=b/\b<=239 then b-224 else if 240<=b/\b<=247 then b-240 else b
def cont (s:LB) (v:Int):Nat->Int
 |0=>v
 |j+1=>cont s v j*64+xF s (j+1)-128
def DD (s:LB):Nat->Bool
 |0=>true
 |j+1=>DD s j&&decide (128<=xF s (j+1)/\xF s (j+1)<=191)
theorem Sh (s:LB) (v:Int) (h0:0<=v) (h1:v<=255):∀ j,j<=3->DD s j=true->0<=cont s v j/\cont s v j+1<=300*64 ^ j
 |0,_,_=>by simp [cont];omega
 |j+1,hj,hk=>by
  simp only [DD,xB,a_] at hk;have:=Sh s v h0 h1 j xE hk.1;have e:(64:Int) ^ (j+1)=64 ^ j*64:=by rw [F0]
  have hp:(1:Int)<=64 ^ j:=G' yD;have hb:=bn s (j+1);simp only [cont];omega
theorem rI (s:LB) {k:Nat}:∀ {m},k<=m->DD s k=false->DD s m=false
 |0,h,e=>by have:k=0:=xE;subst this;exact e
 |m+1,h,e=>by
  by_cases hk:k=m+1
  ·subst hk;exact e
  ·simp only [DD,rI s (k:=k) (m:=m) xE e,A5]
theorem Uu (s:LB) (j:Nat) (h:¬ (128<=xF s (j+1)/\xF s (j+1)<=191)):DD s (j+1)=false:=by
 simp only [DD,ah h,yA]
def GK (s:LB):Int×Int :=
 if xF s 0<128 then(xF s 0,1) else if nC (xF s 0)=0\/(s.length:Int)<nC (xF s 0) then(0,0)
 else if DD s (nC (xF s 0)-1).toNat=false then(0,0)
 else if cont s (vC (xF s 0)) (nC (xF s 0)-1).toNat<lC (xF s 0)\/1114111<cont s (vC (xF s 0)) (nC (xF s 0)-1).toNat\/(55296<=cont s (vC (xF s 0)) (nC (xF s 0)-1).toNat/\cont s (vC (xF s 0)) (nC (xF s 0)-1).toNat<=57343) then(0,0)
 else(cont s (vC (xF s 0)) (nC (xF s 0)-1).toNat,nC (xF s 0))
theorem Zi (s:LB):Go.Lib.decodeL s=Go.Lib.decodeN s.length (xF s 0) (xF s 1) (xF s 2) (xF s 3):=by
 unfold Go.Lib.decodeL;rw [BR];simp only [GW,lv,Db,A0];rfl
def NN (s:LB):Int×Int:=if Gi s=65533/\wid s=1 then(0,0) else(Gi s,wid s)
theorem sN {D:Nat×Nat}{a b:Nat}(h:D=(a,b)) (hb:b≠1):(if D.1=65533/\D.2=1 then((0,0):Int×Int) else(D.1,D.2))=((a:Int),(b:Int)):=by
 subst h;rw [xC (λk=>hb k.2)]
theorem mu {D:Nat×Nat}(h:D=(65533,1)):(if D.1=65533/\D.2=1 then((0,0):Int×Int) else(D.1,D.2))=(0,0):=by
 subst h;rfl
theorem ZL (s:LB) (h:s≠[]):GK s=NN s:=by
 have hl:=As.2 h;have h0:=bn s 0;have h1:=bn s 1;have h2:=bn s 2;have h3:=bn s 3;unfold NN;simp only [Gi,wid,Zi];generalize GF:xF s 0=b0 at *;generalize H3:xF s 1=b1 at *;generalize Ku:xF s 2=b2 at *;generalize Pf:xF s 3=b3 at *;unfold GK;rw [GF];by_cases c0:b0<128
 ·rw [xD c0];simp only [Go.Lib.decodeN,xD c0];rw [xC xE];rfl
 ·rw [xC c0];by_cases c2:192<=b0/\b0<=223
  ·have hn:nC b0=2:=xD c2;have hv:vC b0=b0-192:=xD c2;have GU:lC b0=128:=xD c2;rw [hn,hv,GU];simp only [show((2:Int)-1).toNat=1 from rfl,DD,cont,xQ,A0,H3,xL];by_cases k1:1<s.length/\b1 / 64=2
   ·have e:b0 / 32=6/\1<s.length/\b1 / 64=2:=⟨by omega,k1⟩;by_cases g:b0 % 32*64+b1 % 64>=128
    ·rw [sN (a:=b0 % 32*64+b1 % 64) (b:=2) (by unfold Go.Lib.decodeN;rw [xC c0,xD e,xD g]) yD,xC xE,xC xE,xC xE];simp only [zu];omega
    ·rw [mu (by unfold Go.Lib.decodeN;rw [xC c0,xD e,xC g]),xC xE,xC xE,xD xE]
   ·exact m90
  ·by_cases c3:224<=b0/\b0<=239
   ·have hn:nC b0=3:=by unfold nC;rw [xC c2,xD c3]
    have hv:vC b0=b0-224:=by unfold vC;rw [xC c2,xD c3]
    have GU:lC b0=2048:=by unfold lC;rw [xC c2,xD c3]
    rw [hn,hv,GU];simp only [show((3:Int)-1).toNat=2 from rfl,DD,cont,xQ,A0,H3,Ku,FD,xL,Nat.reduceAdd];by_cases k1:(1<s.length/\b1 / 64=2)/\(2<s.length/\b2 / 64=2)
    ·have e:b0 / 16=14/\(1<s.length/\b1 / 64=2)/\(2<s.length/\b2 / 64=2):=⟨by omega,k1⟩;by_cases g:b0 % 16*4096+b1 % 64*64+b2 % 64>=2048/\(b0 % 16*4096+b1 % 64*64+b2 % 64<55296\/(57344<=b0 % 16*4096+b1 % 64*64+b2 % 64/\b0 % 16*4096+b1 % 64*64+b2 % 64<=1114111))
     ·rw [sN (a:=b0 % 16*4096+b1 % 64*64+b2 % 64) (b:=3) (by unfold Go.Lib.decodeN;rw [xC c0,xC xE,xD e,xD g]) yD,xC xE,xC xE,xC xE];simp only [zu];omega
     ·rw [mu (by unfold Go.Lib.decodeN;rw [xC c0,xC xE,xD e,xC g]),xC xE,xC xE,xD xE]
    ·exact m90
   ·by_cases c4:240<=b0/\b0<=247
    ·have hn:nC b0=4:=by unfold nC;rw [xC c2,xC c3,xD c4]
     have hv:vC b0=b0-240:=by unfold vC;rw [xC c2,xC c3,xD c4]
     have GU:lC b0=65536:=by unfold lC;rw [xC c2,xC c3,xD c4]
     rw [hn,hv,GU];simp only [show((4:Int)-1).toNat=3 from rfl,DD,cont,xQ,A0,H3,Ku,Pf,FD,xL,Nat.reduceAdd];by_cases k1:(1<s.length/\b1 / 64=2)/\(2<s.length/\b2 / 64=2)/\(3<s.length/\b3 / 64=2)
     ·have e:b0 / 8=30/\(1<s.length/\b1 / 64=2)/\(2<s.length/\b2 / 64=2)/\(3<s.length/\b3 / 64=2):=⟨by omega,k1⟩;by_cases g:b0 % 8*262144+b1 % 64*4096+b2 % 64*64+b3 % 64>=65536/\(b0 % 8*262144+b1 % 64*4096+b2 % 64*64+b3 % 64<55296\/(57344<=b0 % 8*262144+b1 % 64*4096+b2 % 64*64+b3 % 64/\b0 % 8*262144+b1 % 64*4096+b2 % 64*64+b3 % 64<=1114111))
      ·rw [sN (a:=b0 % 8*262144+b1 % 64*4096+b2 % 64*64+b3 % 64) (b:=4) (by unfold Go.Lib.decodeN;rw [xC c0,xC xE,xC xE,xD e,xD g]) yD,xC xE,xC xE,xC xE];simp only [zu];omega
      ·rw [mu (by unfold Go.Lib.decodeN;rw [xC c0,xC xE,xC xE,xD e,xC g]),xC xE,xC xE,xD xE]
     ·exact m90
    ·have hn:nC b0=0:=by unfold nC;rw [xC c2,xC c3,xC c4]
     rw [hn,xD (.inl U),mu];unfold Go.Lib.decodeN;rw [xC c0,xC xE,xC xE,xC xE]
theorem a8s (b:Nat) (h:b<256) (h1:128<=b):(nC b=0\/2<=nC b)/\nC b<=4/\0<=vC b/\vC b<=255/\0<=lC b/\lC b<=65536:=by
 unfold nC vC lC
 (repeat' split)<;>omega
theorem qp {P:Nat->Bool}(hP:∀ c,P c=true->c<128):∀ (n:Nat) (s:LB),s.length<=n->Aw (λc _=>P c) s 0=s.all λb=>P b.toNat:=by
 intro n
 induction n with
 |zero=>intro s hs;have:s=[]:=xI xE;subst this;rfl
 |succ n ih =>
  intro s hs;cases s with
  |nil=>rfl
  |cons b r =>
   have h0:xF (b::r) 0=b.toNat:=rfl;by_cases hb:b.toNat<128
   ·have hd:Go.Lib.decodeL (b::r)=(b.toNat,1):=by rw [Zi,h0];unfold Go.Lib.decodeN;rw [xD hb]
    have hc:Gi (b::r)=b.toNat:=by show(Go.Lib.decodeL (b::r)).1=_;rw [hd]
    have hw:wid (b::r)=1:=by show(Go.Lib.decodeL (b::r)).2=_;rw [hd]
    simp only [Aw,hc,hw,DX,ya];rw [ih r (by simp at hs;omega)]
   ·have hf:P b.toNat=false:=by
     cases hp:P b.toNat with
     |false=>rfl
     |true=>exact absurd (hP _ hp) hb
    have hc:128<=Gi (b::r):=by
     show 128<=(Go.Lib.decodeL (b::r)).1;rw [Zi,h0];unfold Go.Lib.decodeN;rw [xC hb]
     (repeat' split)<;>simp<;>omega
    have hf2:P (Gi (b::r))=false:=by
     cases hp:P (Gi (b::r)) with
     |false=>rfl
     |true=>have:=hP _ hp;omega
    simp only [Aw,hf2,A5,ya,hf]
theorem wn (P:Nat->Bool) (s:LB) (p:Nat) (h:p<s.length):((s.drop p).all λb=>P b.toNat)=(P (xF s p)&&(s.drop (p+1)).all λb=>P b.toNat):=by
 rw [aL h,ya,bW s p h]
theorem Zc {f m len least:Nat}(h:¬ (0<m\/len<least)):Hh f m len least=[]:=mO h
def JU (s:LB):Nat:=if FN s||!s.all FZ then 0 else Ar s
theorem XG {s:LB}(h:s.length=0\/19<s.length\/1<s.length/\xF s 0=48):JU s=0/\BT s=none:=by
 have hb:FN s=true:=ae h;simp [JU,BT,hb]
theorem a1W {s:LB}{i:Nat}(h:i<s.length) (hd:¬ (48<=xF s i/\xF s i<=57)):JU s=0/\BT s=none:=by
 have hb:s.all FZ=false:=by
  rw [yM];refine⟨s[i],ax _,?_⟩;have e:=bW s i h;unfold FZ;rw [ah xE];decide
 unfold JU BT;rw [hb];simp
theorem a1V {s:LB}(h:¬ (s.length=0\/19<s.length\/1<s.length/\xF s 0=48)) (hd:s.all FZ=true):JU s=Ar s/\(BT s).isSome=decide (Ar s<9223372036854775808):=by
 have hb:FN s=false:=ah h;unfold JU BT;rw [hb,hd];simp only [ym,Bool.or_self,bg,if_false];refine⟨trivial,?_⟩;split
 ·rename_i hh;rw [ae hh];rfl
 ·rename_i hh;rw [ah hh];rfl
theorem mC (s:LB) (i:Nat) (h:i<s.length):Ar (s.take (i+1))=Ar (s.take i)*10+(xF s i-48):=by
 rw [ai h,fU,bW s i h]
theorem pW (s:LB) (i:Nat) (h:i<s.length):(s.take (i+1)).all FZ=((s.take i).all FZ&&decide (48<=xF s i/\xF s i<=57)):=by
 rw [ai h,yr];simp [FZ,bW s i h]
theorem TK {s:LB}(h:(BT s).isSome=true):BT s=some (JU s)/\JU s<9223372036854775808:=by
 unfold BT JU at *;split at h
 ·cases h
 ·rename_i hb;split at h
  ·rename_i hh;rw [xC hb];simp only [xC hb,xD hh];exact⟨trivial,hh⟩
  ·cases h
theorem TL {s:LB}(h:(BT s).isSome=false):BT s=none:=by
 cases hn:BT s with
 |none=>rfl
 |some x=>rw [hn] at h;cases h
theorem sX (s cur:LB) (i:Nat) (h:i<s.length) (hc:xF s i≠46):zj (s.drop i) cur=zj (s.drop (i+1)) (cur++[s[i]]):=by
 rw [aL h,zj,xC];intro e;have:=bW s i h;rw [e] at this;exact hc this.symm
theorem nA (s cur:LB) (i:Nat) (h:i<s.length) (hc:xF s i=46):zj (s.drop i) cur=match BT cur with|none=>none|some n=>(zj (s.drop (i+1)) []).map (n::·):=by
 have:=bW s i h;rw [aL h,zj,xD (zh.1 ((this.trans hc).trans U))]
 all_goals (cases BT cur<;>rfl)
theorem Zy (s:LB) (fr i:Nat) (h:i<s.length) (hf:fr<=i):(s.drop fr).take (i+1-fr)=(s.drop fr).take (i-fr)++[s[i]]:=by
 have hl:i-fr<(s.drop fr).length:=by rw [aM];omega
 have e:(s.drop fr)[i-fr]'hl=s[i]:=by simp only [List.getElem_drop,show fr+(i-fr)=i by omega]
 rw [show i+1-fr=(i-fr)+1 by omega,ai hl,e]
def Hb (s:LB):List Nat×Bool:=match zj s [] with
 |none=>([],false)
 |some l=>(l,Fp l)
theorem v_ (l:List Nat):Fp l=decide (2<=l.length/\(l.getD 0 0=2/\l.getD 1 0<9223372036854775728\/l.getD 0 0<2/\l.getD 1 0<40)):=by
 unfold Fp;rw [<- Bool.decide_or,<- Ko]
theorem tv:∀ (l:List Nat),(enc l).length<=11*l.length
 |[]=>by simp [enc]
 |n::r=>by
  have h1:=tv r;have h2:∀ f m,(Ny f m).length<=f:=by
   intro f
   induction f with
   |zero=>intro m;simp [Ny]
   |succ f ih=>intro m;rw [Ny];split;simp;(have:=ih (m / 128);simp;omega)
  have h3:=h2 10 (n / 128);simp only [enc,G1,O5,aF,aw,ay];omega
theorem xh (a b:List Nat):enc (a++b)=enc a++enc b:=by
 induction a with
 |nil=>rfl
 |cons n r ih=>simp only [xX,enc,ih,xW]
theorem wE (l:List Nat) (i:Nat) (h2:2<=i) (hi:i<l.length):(l.drop 2).take (i+1-2)=(l.drop 2).take (i-2)++[l.getD i 0]:=by
 rw [show i+1-2=(i-2)+1 by omega,ai (by rw [aM];omega),List.getElem_drop];congr 2;simp [show 2+(i-2)=i by omega,hi]
theorem sm (l:List Nat) (n:Nat):BK (l++[n])=BK l++([46]++CS n 1):=by
 induction l with
 |nil=>simp [BK]
 |cons m r ih=>simp [BK,ih]
theorem T1 (l:List Nat) (n:Nat) (h:l≠[]):DR (l++[n])=DR l++[46]++CS n 1:=by
 cases l with
 |nil=>exact absurd U h
 |cons m r=>simp [DR,sm]
theorem u7 (l:List Nat):DR l=[]<->l=[]:=by
 cases l with
 |nil=>simp [DR]
 |cons m r=>simp [DR]
theorem wL (b:LB) (i n long:Nat) (h:i<b.length):DK (b.drop i) n long=if 9<long+1\/9223372036854775808<=n*128+xF b i % 128 then none else if 128<=xF b i then DK (b.drop (i+1)) (n*128+xF b i % 128) (long+1) else(DK (b.drop (i+1)) 0 0).map (λl=>(n*128+xF b i % 128)::l):=by
 rw [aL h,DK,bW b i h]
def Ea (y m:Int):Int:=if m=0 then(if IJ y then 366 else 365) else zR y m
theorem TQ (y:Int):IJ y=decide (y % 4=0/\y % 100≠0\/y % 400=0):=by
 unfold IJ;rw [<- Bool.decide_or,<- Ko];exact y7.2 xE
theorem vO (y m:Int):28<=Ea y m/\Ea y m<=366:=by
 have:=cO y m;unfold Ea;(repeat' split)<;>omega
def AS (s:LB):Int:=if s.all FZ then Ar s else -1
theorem iH (s:LB) (i n j:Nat) (h:j<n):xF ((s.drop i).take n) j=xF s (i+j):=by
 unfold xF;simp only [aJ];rw [yz,xD h,yC]
theorem a8i (l:LB) (h:l.length=2):AS l=if 48<=xF l 0/\xF l 0<=57/\48<=xF l 1/\xF l 1<=57 then(xF l 0-48:Int)*10+(xF l 1-48) else -1:=by
 match l,h with
 |[a,b],_ =>
  have ha:xF [a,b] 0=a.toNat:=rfl;have hb:xF [a,b] 1=b.toNat:=rfl;rw [ha,hb];exact m137
theorem a8h (l:LB) (h:l.length=4):AS l=if(48<=xF l 0/\xF l 0<=57/\48<=xF l 1/\xF l 1<=57)/\48<=xF l 2/\xF l 2<=57/\48<=xF l 3/\xF l 3<=57 then((xF l 0-48:Int)*10+(xF l 1-48))*100+((xF l 2-48:Int)*10+(xF l 3-48)) else -1:=by
 match l,h with
 |[a,b,c,d],_ =>
  have ha:xF [a,b,c,d] 0=a.toNat:=rfl;have hb:xF [a,b,c,d] 1=b.toNat:=rfl;have hc:xF [a,b,c,d] 2=c.toNat:=rfl;have hd:xF [a,b,c,d] 3=d.toNat:=rfl;rw [ha,hb,hc,hd];exact m137
theorem ir (s:LB) (i:Nat) (h:i+1<s.length):AS ((s.drop i).take 2)=if 0<=yx s i then yx s i else -1:=by
 rw [a8i _ (by simp;omega),iH s i 2 0 yD,iH s i 2 1 yD];unfold yx;rw [DY]
 (repeat' split)<;>omega
theorem Tx (s:LB) (h:4<=s.length):(AS (s.take 4)=yx s 0*100+yx s 2/\0<=yx s 0*100+yx s 2/\yx s 0*100+yx s 2<=9999)\/AS (s.take 4)=-1/\yx s 0*100+yx s 2<0:=by
 have e:=a8h (s.take 4) (by simp;omega);have hb:=λj hj=>iH s 0 4 j hj;rw [C3] at hb;rw [hb 0 yD,hb 1 yD,hb 2 yD,hb 3 yD] at e;simp only [A0] at e;have h2:=cM s 0;have h3:=cM s 2;unfold yx at *;rw [e];simp only [A0,Nat.reduceAdd] at *
 (repeat' split)<;>omega
def Gj (y m d hh mi s:Int):Prop:=0<=y/\y<=9999/\1<=m/\m<=12/\1<=d/\d<=zR y m/\0<=hh/\hh<=23/\0<=mi/\mi<=59/\0<=s/\s<=59
instance (y m d hh mi s:Int):Decidable (Gj y m d hh mi s):=by unfold Gj;infer_instance
def atT (y m d hh mi s:Int):Int:=-62167219200+(xT y+(d-1)+zM y (m.toNat-1))*86400+(hh*3600+mi*60+s)
theorem SC (y:Int) (h:0<=y):xT (y+400)=xT y+146097:=by unfold xT;(repeat' split)<;>omega
theorem a08 (y:Int) (h:0<=y):xT (y+1)=xT y+Ea y 0:=by
 have:=TQ y;unfold xT Ea;rw [xD U,this];simp only [a_]
 (repeat' split)<;>omega
theorem XV (y:Int) (s:LB) (h:s.length=10) (hy:y<=9999):Az y s=decide (Gj y (AS ((s.drop 0).take 2)) (AS ((s.drop 2).take 2)) (AS ((s.drop 4).take 2)) (AS ((s.drop 6).take 2)) (AS ((s.drop 8).take 2))) /\
 (Az y s=true->FR y s=atT y (AS ((s.drop 0).take 2)) (AS ((s.drop 2).take 2)) (AS ((s.drop 4).take 2)) (AS ((s.drop 6).take 2)) (AS ((s.drop 8).take 2))):=by
 rw [ir s 0 xE,ir s 2 xE,ir s 4 xE,ir s 6 xE,ir s 8 xE];have w0:=cM s 0;have w2:=cM s 2;have w4:=cM s 4;have w6:=cM s 6;have w8:=cM s 8;by_cases c0:0<=yx s 0
 ·by_cases c2:0<=yx s 2
  ·by_cases c4:0<=yx s 4
   ·by_cases c6:0<=yx s 6
    ·by_cases c8:0<=yx s 8
     ·rw [xD c0,xD c2,xD c4,xD c6,xD c8];refine⟨?_,λ_=>rfl⟩;unfold Az Gj;exact y7.2 xE
     ·have hf:Az y s=false:=ah xE;rw [hf,xC c8];exact m69
    ·have hf:Az y s=false:=ah xE;rw [hf,xC c6];exact m69
   ·have hf:Az y s=false:=ah xE;rw [hf,xC c4];exact m69
  ·have hf:Az y s=false:=ah xE;rw [hf,xC c2];exact m69
 ·have hf:Az y s=false:=ah xE;rw [hf,xC c0];exact m69
theorem vj (s g:LB) (hg:g.length=6) (hb:∀ k,k<6->xF g k=if 15+k+1<s.length then xF s (15+k) else 48):∀ k,k<=6->(g.take k).all FZ=BY s k/\(BY s k=true->(Ar (g.take k):Int)=Er s k)
 |0,_=>by simp [BY,Er,Ar]
 |k+1,hk=>by
  obtain⟨i1,i2⟩:=vj s g hg hb k xE;have hbk:=hb k xE;rw [pW g k xE,mC g k xE,i1];simp only [BY,Er];by_cases hh:15+k+1<s.length
  ·rw [xD hh,xD hh];rw [xD hh] at hbk;rw [hbk];refine⟨U,λhz=>?_⟩;rw [xB] at hz;have:=i2 hz.1;have:=xV hz.2;omega
  ·rw [xC hh,xC hh];rw [xC hh] at hbk;rw [hbk,ae xE,yO];exact⟨U,λhz=>by have:=i2 hz;omega⟩
theorem Xm (s g:LB) (hg:g.length=6) (hb:∀ k,k<6->xF g k=if 15+k+1<s.length then xF s (15+k) else 48):(BY s 6=true/\AS g=Er s 6/\0<=AS g)\/(BY s 6=false/\AS g=-1):=by
 obtain⟨i1,i2⟩:=vj s g hg hb 6 (aB _);rw [aD xE] at i1 i2;unfold AS;rw [i1];cases hm:BY s 6 with
 |true=>left;rw [xD rfl];exact⟨U,i2 hm,by omega⟩
 |false=>right;exact⟨U,by simp⟩
theorem xq (l:LB) (n k:Nat) (h:k<l.length+n):xF (l++List.replicate n 48) k=if k<l.length then xF l k else 48:=by
 unfold xF;rw [aJ,List.getElem?_append];split
 ·rw [aJ]
 ·rw [List.getElem?_replicate,xD xE];rfl
theorem a1F {s:LB}{y:Int}{q:LB}(h:4<=s.length) (hy:y=AS (s.take 4)):Az y q=Az (yx s 0*100+yx s 2) q/\Ij y q=Ij (yx s 0*100+yx s 2) q/\y<=9999:=by
 rcases Tx s h with ⟨e1,e2,e3⟩|⟨e1,e2⟩
 ·rw [hy,e1];exact⟨U,U,e3⟩
 ·have f1:Az y q=false:=ah xE;have f2:Az (yx s 0*100+yx s 2) q=false:=ah xE;unfold Ij;rw [f1,f2];exact⟨U,U,by omega⟩
def OK:LB:=[32,39,40,41,43,44,45,46,47,58,61,63]
def OL (b:Int):Bool:=(decide (65<=b/\b<=90)||decide (97<=b/\b<=122))||decide (48<=b/\b<=57)
def JK (b:Int) (l:LB):Bool:=l.any λx=>decide (b=x.toNat)
theorem a5s (b:Nat):H' b=(OL b||JK b OK):=by
 rw [Kn];simp only [H',OL,JK,OK,List.any_cons,List.any_nil,yu,a_,Ic,show((32:UInt8).toNat=32) from rfl,show((39:UInt8).toNat=39) from rfl,show((40:UInt8).toNat=40) from rfl,show((41:UInt8).toNat=41) from rfl,show((43:UInt8).toNat=43) from rfl,show((44:UInt8).toNat=44) from rfl,show((45:UInt8).toNat=45) from rfl,show((46:UInt8).toNat=46) from rfl,show((47:UInt8).toNat=47) from rfl,show((58:UInt8).toNat=58) from rfl,show((61:UInt8).toNat=61) from rfl,show((63:UInt8).toNat=63) from rfl];omega
theorem wP (b:Int) (q:Nat) (h:q<OK.length):JK b (OK.take (q+1))=(JK b (OK.take q)||decide (b=xF OK q)):=by
 unfold JK;rw [ai h,List.any_append,List.any_cons,List.any_nil,Ic,bW OK q h]
theorem a5r (c:Nat) (h:H' c=true):c<128:=by
 have:=xV h;omega
theorem a05 {b:LB}(h:b.length=0\/7<xF b 0):DM b=false:=ah (λhh=>hh.1 xE)
theorem a7j {b:LB}(h:b.length=1) (h7:xF b 0<=7):DM b=decide (((2 ^ xF b 0:Nat):Int)=1):=by
 unfold DM;refine y7.2 ?_;rcases B_ (xF b 0) with h0|h0
 ·exact⟨λ_=>by rw [h0];rfl,λ_=>⟨by omega,.inl h0⟩⟩
 ·have:2<=2 ^ xF b 0:=yf (n:=2) yD h0;constructor
  ·rintro⟨h1,_⟩;omega
  ·intro h1;omega
theorem a7i {b:LB}(h0:b.length≠0) (h1:b.length≠1) (h7:xF b 0<=7):DM b=decide ((xF b (b.length-1):Int) % ((2 ^ xF b 0:Nat):Int)=0):=by
 unfold DM;refine y7.2 ?_;constructor
 ·rintro⟨_,h2|h2⟩
  ·rw [h2];simp
  ·rw [<- Int.natCast_emod,h2];rfl
 ·intro h2;rw [<- Int.natCast_emod] at h2;exact⟨by omega,.inr xE⟩
theorem a8e (n:Nat) (h:n<=7):1<=2 ^ n/\2 ^ n<=128:=⟨Nat.one_le_two_pow,yf (n:=2) yD h⟩
theorem jL:∀ (l r:LB),C7 l r=decide (0<Go.Lib.compareBytes r l)
 |[],[]=>rfl
 |[],_::_=>rfl
 |_::_,[]=>rfl
 |a::l,b::r=>by
  have ih:=jL l r;show(if a=b then C7 l r else decide (a<b))=decide (0<(if b<a then(-1:Int) else if a<b then 1 else Go.Lib.compareBytes r l));by_cases h:a=b
  ·subst h;rw [xD U,xC (by simp [A8]),xC (by simp [A8]),ih]
  ·rw [xC h];have hn:a.toNat≠b.toNat:=λe=>h (zh.1 e);by_cases h2:b<a
   ·rw [xD h2];rw [A8] at h2;exact y7.2 ⟨λh3=>by rw [A8] at h3;omega,λh3=>by omega⟩
   ·have h3:a<b:=by rw [A8] at h2 |-;omega
    rw [xC h2,xD h3,ae h3];rfl
theorem uS {c t:Int}{bs:LB}(h:B6 c t true=true) (hb:bs.length=0):(Nd.mk c t true bs ks).put=(Nd.B0 (decide (c=0)&&decide (t=17)) ks none []).map (λb=>BM c t true b.length++b):=by
 have hn:bs=[]:=xI hb;subst hn;have zt:EU c t true [] ks=true:=by unfold EU;rw [h];simp
 simp only [Nd.put];rw [xD zt]
theorem uR {c t:Int}{bs:LB}(h:B6 c t false=true) (hk:ks.length=0):(Nd.mk c t false bs ks).put=if decide (c=0)&&!AJ t bs then none else some (BM c t false bs.length++bs):=by
 have hn:ks=[]:=xI hk;subst hn;have zt:EU c t false bs []=!(decide (c=0)&&!AJ t bs):=by unfold EU;rw [h];simp
 simp only [Nd.put];rw [zt];cases decide (c=0)&&!AJ t bs<;>rfl
theorem a1w {c t:Int}{bs:LB}(h:¬ (B6 c t k=true/\(k=true->bs.length=0)/\(k=false->ks.length=0))):(Nd.mk c t k bs ks).put=none:=by
 simp only [Nd.put];rw [xC];intro zt;refine h ?_;unfold EU at zt;rw [xB,xB,xB] at zt;obtain⟨h1,h2,h3,_⟩:=zt;refine⟨h1,?_,?_⟩
 ·rintro rfl;simp at h2;exact AQ.2 h2
 ·rintro rfl;simp at h3;exact AQ.2 h3
theorem R0 {c t:Int}(h:B6 c t k=true):(c=0\/c=2)/\0<=t/\t<=30:=by
 unfold B6 at h;simp only [xB,yu,a_] at h;obtain⟨h1,h2⟩:=h;exact m190
def Hd (n:Nd):Nd:=n.kids.getD ((n.kids.length:Int)-1).toNat (.mk 0 0 false [] [])
def Bk (n:Nd):Xt×Bool :=
 if xR n 2 3&&!decide (0<(n.bytes.length:Int))&&(zG (kd n 0)).2&&Dq (Hd n) 4&&!decide (2000<((Hd n).bytes.length:Int))&&(!decide ((n.kids.length:Int)=3)||(Dq (kd n 1) 1&&decide ((((kd n 1).bytes.getD 0 0).toNat:Int)=255))) then
  (⟨(zG (kd n 0)).1,decide ((n.kids.length:Int)=3),(Hd n).bytes⟩,true) else(⟨[],false,[]⟩,false)
theorem RR (n:Nd) (hz:n.sz<=1073741824) (hk:n.kids.length<=1073741824):yq prog 263 [.nd n] (.zZ [.st (Xt.enc (Bk n).1),.b (Bk n).2]):=by
 have k0:=b_ n 0;have k1:=b_ n 1;have k2:=b_ n ((n.kids.length:Int)-1).toNat;have kb:=bc (n.kids.getD ((n.kids.length:Int)-1).toNat (.mk 0 0 false [] []));unfold Bk kd Hd;exact an func263 U ntmps263 U (λe=>Z)
instance:Cn prog 263 (type_of% @RR):=⟨@RR⟩
def Ao (n:Nd):Int :=
 if xR n 2 2&&Dq (kd n 1) 5&&n.put.isSome then(if Gk 256=(zG (kd n 0)).1 then 256 else if Gk 384=(zG (kd n 0)).1 then 384 else if Gk 512=(zG (kd n 0)).1 then 512 else 0) else 0
theorem SH (n:Nd) (hz:n.sz<=1073741824):yq prog 173 [.nd n] (.i (Ao n)):=by
 have k0:=b_ n 0;have k1:=b_ n 1;unfold Ao kd;refine an func173 U ntmps173 U (λe=>?_);refine W ?_;refine Bg U U (λ_=>?_) (λ_=>?_)
 ·exact Z
 refine W ?_;refine Bg U U (λ_=>?_) (λ_=>?_)
 ·exact Z
 refine W ?_;refine Ci U (λ_=>?_) (λ_=>?_)
 ·exact Z
 refine W ?_;refine aI (yi.bAr (zs:=List.replicate 3 (.int .i64 0)) cq U U U U U) ?_;refine W ?_;refine Lp (λg:Nat=>g<=3/\(1<=g->¬ Gk 256=(zG (kd n 0)).1)/\(2<=g->¬ Gk 384=(zG (kd n 0)).1)/\(3<=g->¬ Gk 512=(zG (kd n 0)).1)) (λg=>4-g)
  (λg=>[(2,.d (.i 0)),(3,.d (.s (zG (kd n 0)).1)),(31,.d (.st [.i 256,.i 384,.i 512])),(32,.d (.i (g:Int)))]) (λ_=>[]) 0 ⟨by omega,by omega,by omega,by omega⟩ y9 trivial ?_
 rintro g ⟨h0,h1,h2,h3⟩;unfold kd at h1 h2 h3;unfold kd;obtain rfl|rfl|rfl|rfl:g=0\/g=1\/g=2\/g=3:=by omega
 ·refine W ?_;refine aI (d_ (len:=3) 0 cq U U U U U U U) ?_;refine W ?_;refine Ci U (λ_=>?_) (λ_=>?_)
  ·exact Z
  refine W ?_;exact⟨1,by omega,⟨by omega,λ_=>by first|assumption|exact h1 xE,λ_=>by first|omega|assumption|exact h2 xE,λ_=>by first|omega|assumption⟩,y9,trivial⟩
 ·refine W ?_;refine aI (d_ (len:=3) 1 cq U U U U U U U) ?_;refine W ?_;refine Ci U (λ_=>?_) (λ_=>?_)
  ·exact Z
  refine W ?_;exact⟨2,by omega,⟨by omega,λ_=>by first|assumption|exact h1 xE,λ_=>by first|omega|assumption|exact h2 xE,λ_=>by first|omega|assumption⟩,y9,trivial⟩
 ·refine W ?_;refine aI (d_ (len:=3) 2 cq U U U U U U U) ?_;refine W ?_;refine Ci U (λ_=>?_) (λ_=>?_)
  ·exact Z
  refine W ?_;exact⟨3,by omega,⟨by omega,λ_=>by first|assumption|exact h1 xE,λ_=>by first|omega|assumption|exact h2 xE,λ_=>by first|omega|assumption⟩,y9,trivial⟩
 ·have h1:=h1 xE;have h2:=h2 xE;have h3:=h3 xE;exact Z
instance:Cn prog 173 (type_of% @SH):=⟨@SH⟩
theorem QY (y m:Int) (h0:0<=y):yq prog 344 [.i y,.i m] (.i (zR y m)):=pc y m h0
theorem wi (y:Int) (h0:0<=y/\y<=1000000):yq prog 345 [.i y] (.i (xT y)):=rW y h0.1 h0.2
instance:Cn prog 344 (type_of% @QY):=⟨@QY⟩
instance:Cn prog 345 (type_of% @wi):=⟨@wi⟩
def Vx (D:Int):Nat->Int->Int
 |0,y=>y
 |k+1,y=>if xT (y+1)<=D then Vx D k (y+1) else y
def GD (y:Int):Nat->Int->Int->Int×Int
 |0,d,m=>(d,m)
 |k+1,d,m=>if zR y m<=d then GD y k (d-zR y m) (m+1) else(d,m)
def A4 (t:Int):Int:=(t - -62167219200) / 86400
def yn (t:Int):Int:=Vx (A4 t) 10010 (A4 t / 366)
def yV (t:Int):Int×Int×Int:=(yn t,(GD (yn t) 400 (A4 t-xT (yn t)) 1).2,(GD (yn t) 400 (A4 t-xT (yn t)) 1).1+1)
theorem eC (y:Int) (h:0<=y):365*y<=xT y:=by unfold xT;split<;>omega
theorem kZ (y:Int) (h:0<=y):xT y<=366*y:=by unfold xT;split<;>omega
theorem xu (y:Int) (h:0<=y):xT (y+1)<=xT y+366:=by unfold xT;(repeat' split)<;>omega
theorem Zl (t:Int) (h0:-62167219200<=t/\t<=253402300799):yq prog 347 [.i t] (.zZ [.i (yV t).1,.i (yV t).2.1,.i (yV t).2.2,.i 0]):=by
 have hD0:0<=A4 t:=by unfold A4;omega
 have hD1:A4 t<=3652424:=by unfold A4;omega
 refine an func347 U ntmps347 U (λe=>?_);refine W ?_;refine Bg U U (λ_=>?_) (λ_=>?_)
 ·exfalso;omega
 refine W ?_;refine Ci U (λ_=>?_) (λ_=>?_)
 ·exfalso;omega
 refine W ?_;refine Lp (γ:=Nat×Int) (λg=>0<=g.2/\xT g.2<=A4 t/\Vx (A4 t) g.1 g.2=yn t/\10010<=(g.1:Int)+g.2) (λg=>g.1) (λg=>[(6,.d (.i (A4 t))),(7,.d (.i g.2))]) (λ_=>[]) (10010,A4 t / 366)
  ⟨by simp only;omega,by have:=kZ (A4 t / 366) xE;simp only;omega,U,by simp only;omega⟩ y9 trivial ?_
 rintro⟨k,y⟩ ⟨i0,i1,i2,i3⟩;dsimp only at i0 i1 i2 i3;show JD _ _ _ _ _ [(6,.d (.i (A4 t))),(7,.d (.i y))] [];have lo:=eC y i0;obtain⟨k,rfl⟩:∃ k',k=k'+1:=⟨k-1,by omega⟩;simp only [Vx] at i2;refine W ?_;refine Ci U (λhc=>?_) (λhc=>?_)
 ·rw [xD hc] at i2;refine W ?_;exact⟨(k,y+1),by simp only;omega,⟨by simp only;omega,hc,i2,by simp only;omega⟩,y9,trivial⟩
 rw [xC hc] at i2;subst i2;have nx:=xu (yn t) i0;have bd:=iI (yn t) i0 xE;refine W ?_;refine Lp (γ:=Nat×Int×Int) (λg=>0<=g.2.1/\1<=g.2.2/\28*(g.2.2-1)+g.2.1<=366/\GD (yn t) g.1 g.2.1 g.2.2=GD (yn t) 400 (A4 t-xT (yn t)) 1/\g.2.1<(g.1:Int)) (λg=>g.1)
  (λg=>[(6,.d (.i g.2.1)),(7,.d (.i (yn t))),(8,.d (.i g.2.2))]) (λ_=>[]) (400,A4 t-xT (yn t),1)
  ⟨by simp only;omega,by simp only;omega,by simp only;omega,U,by simp only;omega⟩ ?_ trivial ?_
 ·exact y9
 rintro⟨k,d,m⟩ ⟨j0,j1,j2,j3,j4⟩;dsimp only at j0 j1 j2 j3 j4;show JD _ _ _ _ _ [(6,.d (.i d)),(7,.d (.i (yn t))),(8,.d (.i m))] [];obtain⟨k,rfl⟩:∃ k',k=k'+1:=⟨k-1,by omega⟩;have mb:=cO (yn t) m;rw [GD] at j3;refine W ?_;refine Ci U (λBO=>?_) (λBO=>?_)
 ·rw [xD BO] at j3;refine W ?_;exact⟨(k,d-zR (yn t) m,m+1),by simp only;omega,⟨by simp only;omega,by simp only;omega,by simp only;omega,j3,by simp only;omega⟩,y9,trivial⟩
 exact m183
instance:Cn prog 347 (type_of% @Zl):=⟨@Zl⟩
theorem Y4 (y:Int):∀ (k:Nat) (d m:Int),0<=d->0<=m->0<=(GD y k d m).1/\(GD y k d m).1<=d/\m<=(GD y k d m).2/\(GD y k d m).2<=m+k
 |0,d,m,h,h2=>by simp [GD];omega
 |k+1,d,m,h,h2=>by
  have:=cO y m;rw [GD];split
  ·have:=Y4 y k (d-zR y m) (m+1) xE xE;omega
  ·simp only;omega
theorem Od (D:Int):∀ (k:Nat) (y:Int),0<=y->xT y<=D->0<=Vx D k y/\xT (Vx D k y)<=D
 |0,y,h,h2=>by simp [Vx];omega
 |k+1,y,h,h2=>by
  rw [Vx];split
  ·exact Od D k (y+1) xE zL
  ·exact⟨h,h2⟩
theorem kM (t:Int) (h0:-62167219200<=t/\t<=253402300799):0<=(yV t).1/\(yV t).1<=10010/\0<=(yV t).2.1/\(yV t).2.1<=401/\0<=(yV t).2.2/\(yV t).2.2<=3652425:=by
 have hD0:0<=A4 t:=by unfold A4;omega
 have hD1:A4 t<=3652424:=by unfold A4;omega
 have h1:=kZ (A4 t / 366) xE;have h2:=Od (A4 t) 10010 (A4 t / 366) xE xE;have h3:0<=yn t/\xT (yn t)<=A4 t:=h2;have h4:=eC (yn t) h3.1;have h5:=Y4 (yn t) 400 (A4 t-xT (yn t)) 1 xE xE;have h6:=iI (yn t) h3.1 xE;unfold yV;dsimp only;omega
def AT (t:Int):Nat->Int
 |0=>(yV t).2.1
 |1=>(yV t).2.2
 |2=>(t - -62167219200) % 86400 / 3600
 |3=>(t - -62167219200) % 86400 / 60 % 60
 |_=>(t - -62167219200) % 86400 % 60
def EO (t y:Int) (w:Nat):Nat->yG
 |0=>CS y.toNat w
 |g+1=>EO t y w g++CS (AT t g).toNat 2
theorem XK (t:Int) (h0:-62167219200<=t/\t<=253402300799) (g:Nat):0<=AT t g/\AT t g<=4000000:=by
 have bd:=kM t h0;unfold AT;split<;>omega
theorem lW (t y:Int) (w:Nat):∀ g,(EO t y w g).length<=20*(g+1)
 |0=>cG _ _
 |g+1=>by have:=cG (AT t g).toNat 2;have:=lW t y w g;simp only [EO,aF];omega
theorem wz (t:Int) (h0:-62167219200<=t/\t<=253402300799):yq prog 320 [.i t,.i 2] (.bs (EO t ((yV t).1 % 100) 2 5)):=by
 have bd:=kM t h0;refine an func320 U ntmps320 U (λe=>?_);refine W ?_;refine Cw0 U U U U U (cW (n:=((yV t).1 % 100).toNat) (least:=2) xE U xE xE (by simp)) ?_;refine W ?_;refine aI (yi.bAr (zs:=List.replicate 5 (.int .i64 0)) cq U U U U U) ?_;refine W ?_;refine Lp (γ:=Nat) (λg=>g<=5) (λg=>6-g) (λg=>[(10,.row 0),(40,.d (.st [.i (AT t 0),.i (AT t 1),.i (AT t 2),.i (AT t 3),.i (AT t 4)])),(41,.d (.i (g:Int)))]) (λg=>[(0,.row 5 (.bs (EO t ((yV t).1 % 100) 2 g)))]) 0 xE y9 y9 ?_;intro g hg;have nb:∀ g,0<=AT t g/\AT t g<=4000000:=XK t h0;have ab:=lW t ((yV t).1 % 100) 2;obtain rfl|rfl|rfl|rfl|rfl|rfl:g=0\/g=1\/g=2\/g=3\/g=4\/g=5:=by omega
 ·have nb0:=nb 0;refine W ?_;refine aI (d_ (len:=5) 0 cq U U U U U U U) ?_;refine W ?_;refine Cw U U U U U (cW (l:=EO t ((yV t).1 % 100) 2 0) (n:=(AT t 0).toNat) (least:=2) xE U xE xE (by have:=ab 0;omega)) U U ?_;exact m144
 ·have nb0:=nb 1;refine W ?_;refine aI (d_ (len:=5) 1 cq U U U U U U U) ?_;refine W ?_;refine Cw U U U U U (cW (l:=EO t ((yV t).1 % 100) 2 1) (n:=(AT t 1).toNat) (least:=2) xE U xE xE (by have:=ab 1;omega)) U U ?_;refine W ?_;exact⟨2,by omega,by omega,y9,y9⟩
 ·have nb0:=nb 2;refine W ?_;refine aI (d_ (len:=5) 2 cq U U U U U U U) ?_;refine W ?_;refine Cw U U U U U (cW (l:=EO t ((yV t).1 % 100) 2 2) (n:=(AT t 2).toNat) (least:=2) xE U xE xE (by have:=ab 2;omega)) U U ?_;refine W ?_;exact⟨3,by omega,by omega,y9,y9⟩
 ·have nb0:=nb 3;refine W ?_;refine aI (d_ (len:=5) 3 cq U U U U U U U) ?_;refine W ?_;refine Cw U U U U U (cW (l:=EO t ((yV t).1 % 100) 2 3) (n:=(AT t 3).toNat) (least:=2) xE U xE xE (by have:=ab 3;omega)) U U ?_;refine W ?_;exact⟨4,by omega,by omega,y9,y9⟩
 ·have nb0:=nb 4;refine W ?_;refine aI (d_ (len:=5) 4 cq U U U U U U U) ?_;refine W ?_;refine Cw U U U U U (cW (l:=EO t ((yV t).1 % 100) 2 4) (n:=(AT t 4).toNat) (least:=2) xE U xE xE (by have:=ab 4;omega)) U U ?_;refine W ?_;exact⟨5,by omega,by omega,y9,y9⟩
 ·exact m10
theorem wy (t:Int) (h0:-62167219200<=t/\t<=253402300799):yq prog 320 [.i t,.i 4] (.bs (EO t ((yV t).1) 4 5)):=by
 have bd:=kM t h0;refine an func320 U ntmps320 U (λe=>?_);refine W ?_;refine Cw0 U U U U U (cW (n:=((yV t).1).toNat) (least:=4) xE U xE xE (by simp)) ?_;refine W ?_;refine aI (yi.bAr (zs:=List.replicate 5 (.int .i64 0)) cq U U U U U) ?_;refine W ?_;refine Lp (γ:=Nat) (λg=>g<=5) (λg=>6-g) (λg=>[(10,.row 0),(40,.d (.st [.i (AT t 0),.i (AT t 1),.i (AT t 2),.i (AT t 3),.i (AT t 4)])),(41,.d (.i (g:Int)))]) (λg=>[(0,.row 5 (.bs (EO t ((yV t).1) 4 g)))]) 0 xE y9 y9 ?_;intro g hg;have nb:∀ g,0<=AT t g/\AT t g<=4000000:=XK t h0;have ab:=lW t ((yV t).1) 4;obtain rfl|rfl|rfl|rfl|rfl|rfl:g=0\/g=1\/g=2\/g=3\/g=4\/g=5:=by omega
 ·have nb0:=nb 0;refine W ?_;refine aI (d_ (len:=5) 0 cq U U U U U U U) ?_;refine W ?_;refine Cw U U U U U (cW (l:=EO t ((yV t).1) 4 0) (n:=(AT t 0).toNat) (least:=2) xE U xE xE (by have:=ab 0;omega)) U U ?_;exact m144
 ·have nb0:=nb 1;refine W ?_;refine aI (d_ (len:=5) 1 cq U U U U U U U) ?_;refine W ?_;refine Cw U U U U U (cW (l:=EO t ((yV t).1) 4 1) (n:=(AT t 1).toNat) (least:=2) xE U xE xE (by have:=ab 1;omega)) U U ?_;refine W ?_;exact⟨2,by omega,by omega,y9,y9⟩
 ·have nb0:=nb 2;refine W ?_;refine aI (d_ (len:=5) 2 cq U U U U U U U) ?_;refine W ?_;refine Cw U U U U U (cW (l:=EO t ((yV t).1) 4 2) (n:=(AT t 2).toNat) (least:=2) xE U xE xE (by have:=ab 2;omega)) U U ?_;refine W ?_;exact⟨3,by omega,by omega,y9,y9⟩
 ·have nb0:=nb 3;refine W ?_;refine aI (d_ (len:=5) 3 cq U U U U U U U) ?_;refine W ?_;refine Cw U U U U U (cW (l:=EO t ((yV t).1) 4 3) (n:=(AT t 3).toNat) (least:=2) xE U xE xE (by have:=ab 3;omega)) U U ?_;refine W ?_;exact⟨4,by omega,by omega,y9,y9⟩
 ·have nb0:=nb 4;refine W ?_;refine aI (d_ (len:=5) 4 cq U U U U U U U) ?_;refine W ?_;refine Cw U U U U U (cW (l:=EO t ((yV t).1) 4 4) (n:=(AT t 4).toNat) (least:=2) xE U xE xE (by have:=ab 4;omega)) U U ?_;refine W ?_;exact⟨5,by omega,by omega,y9,y9⟩
 ·exact m10
def KB (t w:Int):yG:=EO t (if w=2 then(yV t).1 % 100 else(yV t).1) w.toNat 5
theorem qb (t w:Int) (h0:-62167219200<=t/\t<=253402300799) (hw:w=2\/w=4):yq prog 320 [.i t,.i w] (.bs (KB t w)):=by
 rcases hw with rfl|rfl
 ·exact wz t h0
 ·exact wy t h0
instance:Cn prog 320 (type_of% @qb):=⟨@qb⟩
theorem nZ (t w:Int):(KB t w).length<=200:=xJ (lW _ _ _ 5) xE
def A_ (t:Int):Option yG:=if t < -631152000\/2524607999<t then none else some (KB t 2++[90])
theorem Q9 (t:Int):yq prog 262 [.i t] (.zZ [.s ((A_ t).getD []),.i (if(A_ t).isSome then 0 else 21)]):=by
 have hl:=nZ t 2;unfold A_;refine an func262 U ntmps262 U (λe=>?_);exact m115
instance:Cn prog 262 (type_of% @Q9):=⟨@Q9⟩
def AP (t:Int):Option yG:=if t < -62167219200\/253402300799<t then none else some (KB t 4++[90])
theorem Y6 (t:Int):yq prog 310 [.i t,.i 0] (.zZ [.s ((AP t).getD []),.i (if(AP t).isSome then 0 else 21)]):=by
 have hl:=nZ t 4;unfold AP;refine an func310 U ntmps310 U (λe=>?_);exact m115
instance:Cn prog 310 (type_of% @Y6):=⟨@Y6⟩
theorem jU (t:Int):((A_ t).getD []).length<=201:=by
 have:=nZ t 2;unfold A_;split<;>simp;omega
theorem mH (t:Int):((AP t).getD []).length<=201:=by
 have:=nZ t 4;unfold AP;split<;>simp;omega
theorem x7 (b:Bool):((if b=true then(0:Int) else 21)=0)=(b=true):=by cases b<;>simp
def AM (t:Int):Nd:=if(A_ t).isSome then .mk 0 23 false ((A_ t).getD []) [] else if(AP t).isSome then .mk 0 24 false ((AP t).getD []) [] else DU
def Bj (t:Int):Int:=if(A_ t).isSome then 0 else if(AP t).isSome then 0 else 21
theorem VU (t:Int):yq prog 241 [.i t] (.zZ [.nd (AM t),.i (Bj t)]):=by
 have h1:=jU t;have h2:=mH t;unfold AM Bj;refine an func241 U ntmps241 U (λe=>?_);exact m30
instance:Cn prog 241 (type_of% @VU):=⟨@VU⟩
theorem uT (s:yG) (h2:s.length<=140737488355328):yq prog 256 [.s s] (.zZ [.i (N3 s),.i (if DT s then 0 else 21)]):=mq s h2
instance:Cn prog 256 (type_of% @uT):=⟨@uT⟩
theorem QF (s:yG) (h2:s.length<=140737488355328):yq prog 257 [.s s] (.zZ [.i (if BS s then FR (yx s 0*100+yx s 2) ((s.drop 4).take 10) else 0),.i (if BS s then N7 s else 0),.i (if BS s then 0 else 21)]):=oM s h2
instance:Cn prog 257 (type_of% @QF):=⟨@QF⟩
def ON (s:yG):Int:=if BS s then FR (yx s 0*100+yx s 2) ((s.drop 4).take 10) else 0
def zC (n:Nd):Int×Bool :=
 if Dq n 23 then(N3 n.bytes,DT n.bytes)
 else if Dq n 24&&BS n.bytes&&decide (N7 n.bytes=0)&&!(A_ (ON n.bytes)).isSome then(ON n.bytes,true) else(0,false)
theorem uf (n:Nd) (hz:n.sz<=1073741824):yq prog 176 [.nd n] (.zZ [.i (zC n).1,.b (zC n).2]):=by
 have kb:=bc n;unfold zC ON;refine an func176 U ntmps176 U (λe=>?_);refine W ?_;refine Ci U (λh1=>?_) (λh1=>?_)
 ·refine W ?_;refine Rt U U ?_;simp only [yR,B5,h1.1,if_true];cases DT n.bytes<;>rfl
 refine W ?_;refine Ci U (λh2=>?_) (λh2=>?_)
 ·refine W ?_;refine Bg U U (λh3=>?_) (λh3=>?_)
  ·rw [x7] at h3;refine W ?_;refine Bg U U (λh4=>?_) (λh4=>?_)
   ·refine W ?_;refine Ci U (λh5=>?_) (λh5=>?_)
    ·exact m120
    ·exact m120
   ·exact m120
  ·rw [x7] at h3;exact m120
 refine W ?_;refine Rt U U ?_;simp [yR,B5,h1,h2]
instance:Cn prog 176 (type_of% @uf):=⟨@uf⟩
theorem a07 (y:Int) (h:0<=y):xT y+365<=xT (y+1):=by
 have:=a08 y h;have:365<=Ea y 0:=by unfold Ea;rw [xD rfl];split<;>omega
 omega
theorem wj (y:Int) (h:0<=y):∀ k:Nat,xT y<=xT (y+k)
 |0=>by simp
 |k+1=>by
  have h1:=wj y h k;have h2:=a07 (y+k) xE;have e:y+((k+1:Nat):Int)=y+k+1:=by omega
  rw [e];omega
theorem mZ {y z:Int}(h:0<=y) (hz:y<=z):xT y<=xT z:=by
 have:=wj y h (z-y).toNat;have e:y+((z-y).toNat:Int)=z:=by omega
 rwa [e] at this
theorem a3e {y z D:Int}(hy:0<=y) (hz:0<=z) (h1:xT y<=D) (h2:D<xT (y+1)) (h3:xT z<=D) (h4:D<xT (z+1)):y=z:=by
 by_cases h:y<z
 ·have:=mZ (show 0<=y+1 by omega) (show y+1<=z by omega);omega
 by_cases h':z<y
 ·have:=mZ (show 0<=z+1 by omega) (show z+1<=y by omega);omega
 omega
theorem Vv (D:Int):∀ (k:Nat) (y:Int),0<=y->D<365*(k+y+1)->D<xT (Vx D k y+1)
 |0,y,h,h2=>by
  have:=eC (y+1) xE;simp only [Vx];omega
 |k+1,y,h,h2=>by
  rw [Vx];split
  ·exact Vv D k (y+1) xE xE
  ·omega
theorem gi (t:Int) (h0:-62167219200<=t/\t<=253402300799):0<=yn t/\xT (yn t)<=A4 t/\A4 t<xT (yn t+1):=by
 have hD0:0<=A4 t:=by unfold A4;omega
 have hD1:A4 t<=3652424:=by unfold A4;omega
 have h1:=kZ (A4 t / 366) xE;have h2:=Od (A4 t) 10010 (A4 t / 366) xE xE;have h3:=Vv (A4 t) 10010 (A4 t / 366) xE xE;exact⟨h2.1,h2.2,h3⟩
theorem PO {t y:Int}(h0:-62167219200<=t/\t<=253402300799) (hy:0<=y) (h1:xT y<=A4 t) (h2:A4 t<xT (y+1)):yn t=y:=by
 obtain⟨a,b,c⟩:=gi t h0;exact a3e a hy b c h1 h2
theorem na {t:Int}(h0:-62167219200<=t/\t<=253402300799):(1950<=yn t/\yn t<=2049)<->(-631152000<=t/\t<=2524607999):=by
 obtain⟨a,b,c⟩:=gi t h0;have e1:xT 1950=712223:=by decide
 have e2:xT 2050=748748:=by decide
 constructor
 ·rintro⟨h1,h2⟩;have q1:=mZ (show(0:Int)<=1950 by decide) h1;have q2:=mZ (show 0<=yn t+1 by omega) (show yn t+1<=2050 by omega);unfold A4 at *;omega
 ·rintro⟨h1,h2⟩;constructor
  ·by_cases h:yn t<1950
   ·have:=mZ (show 0<=yn t+1 by omega) (show yn t+1<=1950 by omega);unfold A4 at *;omega
   ·omega
  ·by_cases h:2049<yn t
   ·have:=mZ (show(0:Int)<=2050 by decide) (show 2050<=yn t by omega);unfold A4 at *;omega
   ·omega
theorem Qz (a b c:Int):yq prog 324 [.i a,.i b,.i c] (.b (decide (b<=a)&&decide (a<=c))):=by
 exact an func324 U ntmps324 U (λe=>Z)
instance:Cn prog 324 (type_of% @Qz):=⟨@Qz⟩
theorem ip (y m:Int) (h0:0<=y):yq prog 350 [.i y,.i m] (.i (Ea y m)):=by
 unfold Ea zR IJ;exact an func350 U ntmps350 U (λe=>Y)
instance:Cn prog 350 (type_of% @ip):=⟨@ip⟩
theorem iV (s:yG) (hl:s.length<=18):yq prog 272 [.s s] (.i (AS s)):=by
 refine an func272 U ntmps272 U (λe=>?_);refine V ?_;refine Lp (γ:=Nat) (λi=>i<=s.length/\(s.take i).all FZ=true/\Ar (s.take i)<10 ^ i) (λi=>20-i) (λi=>[(0,.d (.s s)),(3,.d (.i ((Ar (s.take i):Nat):Int))),(4,.d (.i (i:Int)))]) (λ_=>[]) 0 ⟨by omega,U,by simp [Ar]⟩ y9 trivial ?_;rintro i ⟨hi,hd,hv⟩;refine V ?_;refine Ci U (λg=>?_) (λg=>?_)
 ·have Bx:i<s.length:=by omega
  have DW:=mC s i Bx;have hat:=pW s i Bx;have hp:10 ^ i<=100000000000000000:=xJ (yf yD (show i<=17 by omega)) yD;have Nz:=bn s i;have hbi:xF s i=(s.getD i 0).toNat:=rfl;refine V ?_;refine Ci U (λg2=>?_) (λg2=>?_)
  ·refine V ?_;refine Rt U U ?_;have hb:s.all FZ=false:=by
    rw [yM];refine⟨s[i],ax _,?_⟩;have e:=bW s i Bx;unfold FZ;rw [ah xE];decide
   unfold AS;rw [hb];rfl
  ·exact m65
 ·have YA:s.take i=s:=aD xE;rw [YA] at hd hv |-
  refine V ?_;refine Rt U U ?_;unfold AS;rw [xD hd];rfl
instance:Cn prog 272 (type_of% @iV):=⟨@iV⟩
theorem a3D (y m d hh mi s:Int):yq prog 325 [.i y,.i m,.i d,.i hh,.i mi,.i s] (.zZ [.i (if Gj y m d hh mi s then atT y m d hh mi s else 0),.b (decide (Gj y m d hh mi s))]):=by
 have hmb:=cO y m;have hdm:1<=m->Ea y m=zR y m:=λhm=>xC xE;have no:¬ Gj y m d hh mi s->yR [.i 0,.b false]=.zZ [.i (if Gj y m d hh mi s then atT y m d hh mi s else 0),.b (decide (Gj y m d hh mi s))]:=λh=>by rw [xC h,ah h];rfl
 refine an func325 U ntmps325 U (λe=>?_);refine V ?_
 repeat
  refine Bg U U (λ_=>?_) (λ_=>?_)
  ·refine V ?_;exact Rt U U (no (by unfold Gj;omega))
  first|have cd:=ip y m xE|skip
  refine V ?_
 refine Ci U (λ_=>?_) (λ_=>?_)
 ·refine V ?_;exact Rt U U (no (by unfold Gj;omega))
 have hm1:1<=m:=by omega
 rw [hdm hm1] at *;have zt:Gj y m d hh mi s:=by unfold Gj;omega
 obtain⟨y0,y1,m0,m1,d0,d1,h0,h1,mi0,mi1,s0,s1⟩:=id zt;refine V ?_;refine Lp (γ:=Nat) (λk=>(k:Int)<m) (λk=>13-k) (λk=>[(0,.d (.i y)),(1,.d (.i m)),(3,.d (.i hh)),(4,.d (.i mi)),(5,.d (.i s)),(14,.d (.i (d-1+zM y k))),(15,.d (.i ((k:Int)+1)))]) (λ_=>[]) 0 xE ⟨U,U,U,U,U,by show _=some (A.d (.i (d-1+0)));rw [Int.add_zero];rfl,U,trivial⟩ trivial ?_;intro k hk;have hmd:=ph y k;have b28:=cO y ((k:Int)+1);refine V ?_;refine Ci U (λg=>?_) (λg=>?_)
 ·have c1:=ip y ((k:Int)+1) y0;rw [show Ea y ((k:Int)+1)=zR y ((k:Int)+1) from xC xE] at c1;refine V ?_;refine⟨k+1,by omega,by omega,⟨U,U,U,U,U,?_,U,trivial⟩,trivial⟩;show _=some (A.d (.i (d-1+(zM y k+zR y ((k:Int)+1)))));rw [<- G3];rfl
 have Rx:k=m.toNat-1:=by omega
 subst Rx;refine V ?_;refine Lp (γ:=Nat) (λq=>400*(q:Int)<=y/\xT y=xT (y-400*q)+146097*q) (λq=>26-q) (λq=>[(0,.d (.i (y-400*q))),(3,.d (.i hh)),(4,.d (.i mi)),(5,.d (.i s)),(14,.d (.i (d-1+zM y (m.toNat-1)+146097*q)))]) (λ_=>[]) 0 ⟨by omega,by simp⟩ ?_ trivial ?_
 ·rw [show y-400*((0:Nat):Int)=y by omega,show d-1+zM y (m.toNat-1)+146097*((0:Nat):Int)=d-1+zM y (m.toNat-1) by omega];exact y9
 rintro q ⟨hq,hbq⟩;refine V ?_;refine Ci U (λg=>?_) (λg=>?_)
 ·refine V ?_;refine⟨q+1,by omega,⟨by omega,?_⟩,?_,trivial⟩
  ·rw [hbq];have:=SC (y-400*(q+1:Nat)) xE;rw [show y-400*(q+1:Nat)+400=y-400*q by omega] at this;omega
  ·rw [show y-400*((q+1:Nat):Int)=y-400*q-400 by omega,show d-1+zM y (m.toNat-1)+146097*((q+1:Nat):Int)=d-1+zM y (m.toNat-1)+146097*q+146097 by omega];exact y9
 refine V ?_;refine Lp (γ:=Nat) (λz=>(z:Int)<=y-400*q) (λz=>400-z) (λz=>[(0,.d (.i (y-400*q))),(3,.d (.i hh)),(4,.d (.i mi)),(5,.d (.i s)),(14,.d (.i (d-1+zM y (m.toNat-1)+146097*q+xT z))),(16,.d (.i (z:Int)))]) (λ_=>[]) 0 xE ⟨U,U,U,U,by show _=some (A.d (.i (d-1+zM y (m.toNat-1)+146097*q+0)));rw [Int.add_zero];rfl,U,trivial⟩ trivial ?_;intro z hz;have hbb:=iI z xE xE;have hdb:=vO z 0;refine V ?_;refine Ci U (λg=>?_) (λg=>?_)
 ·have c1:=ip z 0 xE;have e1:=a08 z xE;refine V ?_;refine⟨z+1,by omega,by omega,⟨U,U,U,U,?_,U,trivial⟩,trivial⟩;rw [show xT ((z+1:Nat):Int)=xT z+Ea z 0 from e1,<- G3];rfl
 have hzy:(z:Int)=y-400*q:=by omega
 have hbz:xT y=xT z+146097*q:=by rw [hzy];exact hbq
 refine V ?_;refine Rt U U ?_;rw [xD zt,ae zt];show D.zZ _=D.zZ _;unfold atT;congr 3;congr 1;omega
instance:Cn prog 325 (type_of% @a3D):=⟨@a3D⟩
theorem Qm (y:Int) (s:yG) (hl:s.length=10) (hy:y<=9999):yq prog 273 [.i y,.s s] (.zZ [.i (Ij y s),.b (Az y s)]):=by
 obtain⟨hm1,hm2⟩:=XV y s hl hy;have Lg:∀ k,((s.drop k).take 2).length<=18:=λk=>xJ (BA ..) yD;have p0:yq prog 272 [.s ((s.drop 0).take (2-0))] (.i (AS ((s.drop 0).take 2))):=iV _ (Lg 0);have p2:yq prog 272 [.s ((s.drop 2).take (4-2))] (.i (AS ((s.drop 2).take 2))):=iV _ (Lg 2);have p4:yq prog 272 [.s ((s.drop 4).take (6-4))] (.i (AS ((s.drop 4).take 2))):=iV _ (Lg 4);have p6:yq prog 272 [.s ((s.drop 6).take (8-6))] (.i (AS ((s.drop 6).take 2))):=iV _ (Lg 6);have p8:yq prog 272 [.s ((s.drop 8).take (10-8))] (.i (AS ((s.drop 8).take 2))):=iV _ (Lg 8);refine an func273 U ntmps273 U (λe=>?_);refine V ?_;refine Rt U U ?_;unfold Ij;rw [hm1] at hm2 |-;split<;>rename_i hz
 ·rw [xD (ae hz),hm2 (ae hz),ae hz];rfl
 ·rw [ah hz];rfl
instance:Cn prog 273 (type_of% @Qm):=⟨@Qm⟩
theorem qx (s:yG) (h2:s.length<=140737488355328):yq prog 195 [.s s] (.zZ [.i (N3 s),.i (if DT s then 0 else 21)]):=by
 have w0:=cM s 0;have no:DT s=false->yR [.i 0,.i 21]=.zZ [.i (N3 s),.i (if DT s then 0 else 21)]:=λh=>by unfold N3;rw [h];rfl
 have Lg:(s.take 2).length<=18:=xJ (BA ..) yD;refine an func195 U ntmps195 U (λe=>?_);refine V ?_;refine Bg U U (λg=>?_) (λg=>?_)
 ·exact m91
 refine V ?_;refine Bg U U (λg1=>?_) (λg1=>?_)
 ·exact m91
 have hl:((s.drop 2).take (12-2)).length=10:=by rw [aS,aM];omega
 have zt:DT s=Az (GS s) ((s.drop 2).take 10):=by unfold DT;rw [ae xE];rfl
 have hp:AS (s.take 2)=if 0<=yx s 0 then yx s 0 else -1:=ir s 0 xE;refine V ?_;refine Ci U (λg2=>?_) (λg2=>?_)
 ·refine V ?_;refine Rt U U (no ?_);have ht:¬ 0<=yx s 0:=λh=>by rw [xD h] at hp;omega
  rw [zt,show GS s=yx s 0 from xC ht];exact ah xE
 have ht:0<=yx s 0:=by
  by_cases h:0<=yx s 0
  ·exact h
  ·rw [xC h] at hp;omega
 rw [xD ht] at hp;refine V ?_;rw [hp];refine V ?_;refine Jm (γ:=Unit) (λ_=>[(0,.d (.s s)),(4,.d (.i (GS s)))]) (λ_=>[]) (λ_=>True) ?_ ?_
 ·refine Ci U (λg3=>?_) (λg3=>?_)
  ·refine V ?_;rw [show GS s=1900+yx s 0+100 by unfold GS;rw [xD ht,xD xE];omega];exact m52
  ·refine V ?_;rw [show GS s=1900+yx s 0 by unfold GS;rw [xD ht,xC xE];omega];exact m52
 rintro _ _;have cm:=Qm (GS s) ((s.drop 2).take (12-2)) hl (by unfold GS;(repeat' split)<;>omega);exact m45
theorem ux (s:yG) (h2:s.length<=140737488355328):yq prog 196 [.s s] (.zZ [.i (if BS s then FR (yx s 0*100+yx s 2) ((s.drop 4).take 10) else 0),.i (if BS s then N7 s else 0),.i (if BS s then 0 else 21)]):=by
 have no:BS s=false->yR [.i 0,.i 0,.i 21]=.zZ [.i (if BS s then FR (yx s 0*100+yx s 2) ((s.drop 4).take 10) else 0),.i (if BS s then N7 s else 0),.i (if BS s then 0 else 21)]:=λh=>by rw [h];rfl
 have e1:((s.length:Int)-1).toNat=s.length-1:=by omega
 refine an func196 U ntmps196 U (λe=>?_);refine V ?_;refine Bg U U (λg=>?_) (λg=>?_)
 ·exact m93
 refine V ?_;refine Bg U U (λg=>?_) (λg=>?_)
 ·exact m93
 refine V ?_;refine Bg U U (λg=>?_) (λg=>?_)
 ·rw [e1] at g;exact m93
 rw [e1] at g;refine V ?_;refine Ci U (λl16=>?_) (λl16=>?_)
 ·exact m128
 have hl:15<=s.length/\s.length<=22/\xF s (s.length-1)=90:=by omega
 refine V ?_;rw [e1];have hFl:((s.drop 14).take (s.length-1-14)).length=s.length-15:=by rw [aS,aM];omega
 have hFb:∀ k,k<s.length-15->xF ((s.drop 14).take (s.length-1-14)) k=xF s (14+k):=λk hk=>iH s 14 _ k xE;generalize (s.drop 14).take (s.length-1-14)=F at *;refine V ?_;refine Jm (γ:=Unit) (λ_=>[(0,.d (.s s)),(6,.d (.i (N7 s)))]) (λ_=>[]) (λ_=>BS s=Az (yx s 0*100+yx s 2) ((s.drop 4).take 10)) ?_ ?_
 ·refine Ci U (λg3=>?_) (λg3=>?_)
  rotate_left
  ·have h15:s.length=15:=by
    have:F.length=0:=by rw [show F=[] from by simpa using g3];rfl
    omega
   refine V ?_;rw [show N7 s=0 from xD h15];exact⟨(),a3F hl h15,⟨⟨_,U,az⟩,⟨_,U,az⟩,trivial⟩,trivial⟩
  have D5:s.length≠15:=λh15=>g3 (xI xE);have hd1:(F.drop 1).length=s.length-16:=by rw [aM];omega
  refine V ?_;refine Lp (γ:=Nat) (λj=>s.length-16+j<=6) (λj=>7-j) (λj=>[(0,.d (.s s)),(5,.d (.s F)),(7,.d (.s (F.drop 1++List.replicate j 48)))]) (λ_=>[]) 0 xE ⟨U,U,by show _=some (A.d (.s (F.drop 1++[])));rw [Ak];rfl,trivial⟩ trivial ?_;intro j hj;have hrl:(List.replicate j (48:UInt8)).length=j:=Fz;have hgl:(F.drop 1++List.replicate j 48).length=s.length-16+j:=by rw [aF,Fz,hd1]
  refine V ?_;refine Ci U (λg4=>?_) (λg4=>?_)
  ·refine V ?_;refine⟨j+1,by omega,by omega,⟨U,U,?_,trivial⟩,trivial⟩;rw [Ly,<- xW];rfl
  have hgb:∀ k,k<6->xF (F.drop 1++List.replicate j 48) k=if 15+k+1<s.length then xF s (15+k) else 48:=λk hk=>by
   rw [xq _ _ _ xE];by_cases hz:k<(F.drop 1).length
   ·rw [xD hz,xD xE,show 15+k=14+(1+k) by omega,<- hFb (1+k) xE];unfold xF;simp [SM]
   ·rw [xC hz,xC xE]
  have Yw:=Xm s _ xE hgb;generalize F.drop 1++List.replicate j 48=G at *;have hF0:xF F 0=xF s 14:=hFb 0 xE;have hF1:=hFb (s.length-16) xE;rw [show 14+(s.length-16)=s.length-2 by omega] at hF1;have e3:((F.length:Int)-1).toNat=s.length-16:=by omega
  refine V ?_;refine Bg U U (λg5=>?_) (λg5=>?_)
  ·refine V ?_;exact Rt U U (no (wQ D5 xE))
  refine V ?_;refine Bg U U (λg6=>?_) (λg6=>?_)
  ·refine V ?_;refine Rt U U (no ?_);rcases Yw with ⟨p1,p2,p3⟩|⟨p1,p2⟩
   ·omega
   ·exact Xf 6 D5 xE p1
  refine V ?_;rw [e3,hF1];refine V ?_;refine Ci U (λg7=>?_) (λg7=>?_)
  ·refine V ?_;exact Rt U U (no (wQ D5 xE))
  obtain⟨p1,p2,p3⟩:BY s 6=true/\AS G=Er s 6/\0<=AS G:=by
   rcases Yw with hq|⟨q1,q2⟩
   ·exact hq
   ·omega
  refine V ?_;rw [show N7 s=Er s 6 from xC D5,p2];exact⟨(),a3E hl D5 xE p1,⟨⟨_,U,az⟩,⟨_,U,az⟩,trivial⟩,trivial⟩
 rintro _ zt;have hl4:(s.take 4).length<=18:=xJ (BA ..) yD;have b0P:((s.drop 4).take (14-4)).length=10:=by rw [aS,aM];omega
 obtain⟨hy1,hy2,hy3⟩:=a1F (s:=s) (y:=AS (s.take 4)) (q:=(s.drop 4).take (14-4)) xE U;have cm:=Qm (AS (s.take 4)) ((s.drop 4).take (14-4)) b0P hy3;rw [hy1,hy2] at cm;exact m42
theorem sI (s:yG) (hs:s≠[]) (hl:s.length<=140737488355328):yq prog 346 [.s s] (.zZ [.i (NN s).1,.i (NN s).2]):=by
 have hs1:=As.2 hs;have hb:=bn s 0;rw [<- ZL s hs];have no:GK s=(0,0)->yR [.i 0,.i 0]=.zZ [.i (GK s).1,.i (GK s).2]:=λh=>by rw [h];rfl
 refine an func346 U ntmps346 U (λe=>?_);refine V ?_;refine Ci U (λg=>?_) (λg=>?_)
 ·refine V ?_;refine Rt U U ?_;unfold GK;rw [xD xE];rfl
 have P4:=a8s (xF s 0) hb xE;refine V ?_;refine Jm (γ:=Unit) (λ_=>[(0,.d (.s s)),(4,.d (.i (vC (xF s 0)))),(5,.d (.i (nC (xF s 0)))),(6,.d (.i (lC (xF s 0))))]) (λ_=>[]) (λ_=>True) ?_ ?_
 ·refine Ci U (λg2=>?_) (λg2=>?_)
  ·refine V ?_;rw [show vC (xF s 0)=(xF s 0:Int)-192 from xD xE,show nC (xF s 0)=2 from xD xE,show lC (xF s 0)=128 from xD xE];exact m46
  refine V ?_;refine Ci U (λg3=>?_) (λg3=>?_)
  ·refine V ?_;unfold vC nC lC;rw [xC xE,xD xE,xC xE,xD xE,xC xE,xD xE];exact m46
  refine V ?_;refine Ci U (λg4=>?_) (λg4=>?_)
  ·refine V ?_;unfold vC nC lC;rw [xC xE,xC xE,xD xE,xC xE,xC xE,xD xE,xC xE,xC xE,xD xE];exact m46
  ·refine V ?_;unfold vC nC lC;rw [xC xE,xC xE,xC xE,xC xE,xC xE,xC xE,xC xE,xC xE,xC xE];exact m46
 rintro _ _;refine V ?_;refine Bg U U (λg2=>?_) (λg2=>?_)
 ·refine V ?_;exact Rt U U (no (by unfold GK;rw [xC xE,xD xE]))
 refine V ?_;refine Ci U (λg3=>?_) (λg3=>?_)
 ·refine V ?_;exact Rt U U (no (by unfold GK;rw [xC xE,xD xE]))
 refine V ?_;refine Lp (γ:=Nat) (λj=>(j:Int)+1<=nC (xF s 0)/\DD s j=true) (λj=>5-j) (λj=>[(0,.d (.s s)),(4,.d (.i (cont s (vC (xF s 0)) j))),(5,.d (.i (nC (xF s 0)))),(6,.d (.i (lC (xF s 0)))),(7,.d (.i ((j:Int)+1)))]) (λ_=>[]) 0 ⟨by omega,U⟩ y9 trivial ?_;rintro j ⟨hj,zt⟩;have hcb:=Sh s (vC (xF s 0)) xE xE j xE zt;have hbj:=bn s (j+1);have hp:(64:Int) ^ j<=262144:=by
  have:j=0\/j=1\/j=2\/j=3:=by omega
  exact m175
 refine V ?_;refine Ci U (λg4=>?_) (λg4=>?_)
 ·refine V ?_;rw [show((j:Int)+1).toNat=j+1 by omega];refine V ?_;refine Ci U (λg5=>?_) (λg5=>?_)
  ·refine V ?_;exact Rt U U (no (by unfold GK;rw [xC xE,xC xE,xD (rI s (k:=j+1) xE (Uu s j xE))]))
  refine V ?_;exact⟨j+1,by omega,⟨by omega,by simp only [DD,zt,xQ];exact ae xE⟩,y9,trivial⟩
 have hjn:(nC (xF s 0)-1).toNat=j:=by omega
 have hc:GK s=if cont s (vC (xF s 0)) j<lC (xF s 0)\/1114111<cont s (vC (xF s 0)) j\/(55296<=cont s (vC (xF s 0)) j/\cont s (vC (xF s 0)) j<=57343) then(0,0) else(cont s (vC (xF s 0)) j,nC (xF s 0)):=by
  unfold GK;rw [xC xE,xC xE,hjn,xC (by rw [zt];decide)]
 refine V ?_;refine Bg U U (λg5=>?_) (λg5=>?_)
 ·exact m146
 refine V ?_;refine Bg U U (λg6=>?_) (λg6=>?_)
 ·exact m146
 refine V ?_;refine Ci U (λg7=>?_) (λg7=>?_)
 ·exact m146
 refine V ?_;refine Rt U U ?_;rw [hc,xC xE];rfl
instance:Cn prog 346 (type_of% @sI):=⟨@sI⟩
theorem WS (s:yG) (hl:s.length<=140737488355328):yq prog 318 [.s s] (.b (Aw (λc _=>decide (c<=127)) s 0)):=by
 rw [qp (P:=λc=>decide (c<=127)) (λc hc=>by have:=xV hc;omega) _ s (aB _)];refine an func318 U ntmps318 U (λe=>?_);refine V ?_;refine Lp (γ:=Nat) (λp=>p<=s.length/\(s.all λb=>decide (b.toNat<=127))=(s.drop p).all λb=>decide (b.toNat<=127)) (λp=>s.length+1-p) (λp=>[(0,.d (.s s)),(3,.d (.i (p:Int)))]) (λ_=>[]) 0 ⟨by omega,U⟩ y9 trivial ?_;rintro p ⟨hp,hq⟩;refine V ?_;refine Ci U (λg=>?_) (λg=>?_)
 ·have DW:=wn (λc=>decide (c<=127)) s p xE;refine V ?_;refine Ci U (λg2=>?_) (λg2=>?_)
  ·refine V ?_;refine Rt U U ?_;rw [hq,DW,ah xE];rfl
  refine V ?_;exact⟨p+1,by omega,⟨by omega,by rw [hq,DW,ae xE,xQ]⟩,y9,trivial⟩
 refine V ?_;refine Rt U U ?_;rw [hq,yw xE];rfl
theorem Qf (s:yG) (hl:s.length<=140737488355328):yq prog 316 [.s s] (.b (Aw (λc n=>!decide (c=65533/\n=1)) s 0)):=by
 refine an func316 U ntmps316 U (λe=>?_);refine V ?_;refine Lp (γ:=Nat) (λp=>p<=s.length/\Aw (λc n=>!decide (c=65533/\n=1)) s 0=Aw (λc n=>!decide (c=65533/\n=1)) (s.drop p) 0) (λp=>s.length+1-p) (λp=>[(0,.d (.s s)),(3,.d (.i (p:Int)))]) (λ_=>[]) 0 ⟨by omega,U⟩ y9 trivial ?_;rintro p ⟨hp,hq⟩;refine V ?_;refine Ci U (λg=>?_) (λg=>?_)
 ·have P_:(s.drop p).length=s.length-p:=aM ..;have D5:s.drop p≠[]:=λhh=>by rw [hh] at P_;simp at P_;omega
  have hw:=jO (s.drop p);have hwl:=a4t (s.drop p) D5;have DW:=bx (λc n=>!decide (c=65533/\n=1)) s p xE;have cr:=sI (s.drop p) D5 xE;unfold NN at cr;by_cases hz:Gi (s.drop p)=65533/\wid (s.drop p)=1
  ·rw [xD hz] at cr;refine V ?_;refine Rt U U ?_;rw [hq,DW,ae hz];rfl
  ·rw [xC hz] at cr;refine V ?_;refine Ci U (λg2=>?_) (λg2=>?_)
   ·omega
   refine V ?_;exact⟨p+wid (s.drop p),by omega,⟨by omega,by rw [hq,DW,ah hz];rfl⟩,y9,trivial⟩
 refine V ?_;refine Rt U U ?_;rw [hq,fp _ _ _ xE];rfl
theorem oA (n least:Nat) (hn:n<18446744073709551616) (hl:least<=20):yq prog 190 [.v (.int .u64 (n:Int)),.i (least:Int)] (.s (CS n least)):=by
 refine an func190 U ntmps190 U (λe=>?_);refine V ?_;refine Lp (γ:=Nat×Nat×yG) (λg=>g.2.2.length+g.1=20/\g.2.1<18446744073709551616/\g.2.1<10 ^ g.1/\CS n least=Hh g.1 g.2.1 g.2.2.length least++g.2.2) (λg=>g.1) (λg=>[(0,.d (.v (.int .u64 (g.2.1:Int)))),(1,.d (.i (least:Int))),(5,.d (.s g.2.2))]) (λ_=>[]) (20,n,[]) ⟨U,hn,by simp only [Nat.reducePow];omega,by simp [CS]⟩ y9 trivial ?_;rintro⟨f,m,s⟩ ⟨hf,hm1,hm,he⟩;dsimp only at hf hm1 hm he;show JD _ _ _ _ _ [(0,.d (.v (.int .u64 (m:Int)))),(1,.d (.i (least:Int))),(5,.d (.s s))] []
 repeat (refine JD.seq ?_)
 refine Jm (γ:=Bool) (λb=>[(0,.d (.v (.int .u64 (m:Int)))),(1,.d (.i (least:Int))),(5,.d (.s s)),(13,.d (.bq b))]) (λ_=>[]) (λb=>b=decide (0<m\/s.length<least)) ?_ ?_
 ·refine V ?_;refine Bg U U (λq=>?_) (λq=>?_)
  ·refine V ?_;exact⟨true,(ae xE).symm,⟨⟨_,U,az⟩,⟨_,U,az⟩,⟨_,U,az⟩,⟨_,U,dL⟩,trivial⟩,trivial⟩
  ·refine V ?_;exact⟨decide ((s.length:Int)<least),y7.2 xE,⟨⟨_,U,az⟩,⟨_,U,az⟩,⟨_,U,az⟩,⟨_,U,az⟩,trivial⟩,trivial⟩
 rintro b hb;refine Ci U (λq=>?_) (λq=>?_)
 ·rw [q] at hb;have G5:=xV hb.symm;obtain⟨f',rfl⟩:∃ f',f=f'+1:=⟨f-1,by have:f≠0:=(by rintro rfl;simp at hm;omega);omega⟩;rw [yh] at hm;refine V ?_;rw [show(48+(m:Int) % 10).toNat=48+m % 10 by omega];refine⟨(f',m / 10,[UInt8.ofNat (48+m % 10)]++s),by simp only;omega,⟨by simp;omega,by simp only;omega,by simp only;omega,by rw [he,Hh,xD G5];simp⟩,y9,trivial⟩
 ·rw [q] at hb;have G5:=zz hb.symm;refine V ?_;refine Rt U U ?_;rw [he,Zc G5];rfl
theorem md (s:yG) (hl:s.length<=140737488355328):yq prog 308 [.s s] (.zZ [.v (.int .u64 (JU s:Int)),.b (BT s).isSome]):=by
 have no:s.length=0\/19<s.length\/1<s.length/\xF s 0=48->yR [.v (.int .u64 0),.b false]=.zZ [.v (.int .u64 (JU s:Int)),.b (BT s).isSome]:=λh=>by
  obtain⟨h1,h2⟩:=XG h;rw [h1,h2];rfl
 refine an func308 U ntmps308 U (λe=>?_);refine JD.seq ?_;refine JD.region ?_;refine R3 U U ?_;refine Al.nil ?_
 repeat (refine JD.seq ?_)
 refine Jm (γ:=Bool) (λb=>[(0,.d (.s s)),(23,.d (.bq b))]) (λ_=>[]) (λb=>b=decide (s.length=0\/19<s.length\/1<s.length/\xF s 0=48)) ?_ ?_
 ·refine V ?_;refine Bg U U (λq1=>?_) (λq1=>?_)
  ·exact m145
  refine V ?_;refine Bg U U (λq2=>?_) (λq2=>?_)
  ·exact m145
  refine V ?_;refine Bg U U (λq3=>?_) (λq3=>?_)
  ·refine V ?_;exact⟨decide ((xF s 0:Int)=48),y7.2 xE,⟨⟨_,U,az⟩,⟨_,U,az⟩,trivial⟩,trivial⟩
  ·refine V ?_;exact⟨false,(ah xE).symm,⟨⟨_,U,az⟩,⟨_,U,dL⟩,trivial⟩,trivial⟩
 rintro b hb;refine Ci U (λq=>?_) (λq=>?_)
 ·rw [q] at hb;refine V ?_;exact Rt U U (no (xV hb.symm))
 rw [q] at hb;have zt:=zz hb.symm;refine V ?_;refine Lp (γ:=Nat) (λi=>i<=s.length/\(s.take i).all FZ=true/\Ar (s.take i)<10 ^ i) (λi=>s.length+1-i) (λi=>[(0,.d (.s s)),(4,.d (.v (.int .u64 ((Ar (s.take i):Nat):Int)))),(5,.d (.i (i:Int)))]) (λ_=>[]) 0 ⟨by omega,U,by simp [Ar]⟩ y9 trivial ?_;rintro i ⟨hi,hd,hv⟩;refine V ?_;refine Ci U (λg=>?_) (λg=>?_)
 ·have Bx:i<s.length:=by omega
  have DW:=mC s i Bx;have hat:=pW s i Bx;have hp:10 ^ i<=1000000000000000000:=xJ (yf yD (show i<=18 by omega)) yD;have Nz:=bn s i;refine V ?_;refine Ci U (λg2=>?_) (λg2=>?_)
  ·refine V ?_;refine Rt U U ?_;obtain⟨e1,e2⟩:=a1W Bx (show ¬ (48<=xF s i/\xF s i<=57) by omega);rw [e1,e2];rfl
  ·exact m65
 ·have YA:s.take i=s:=aD xE;rw [YA] at hd hv |-
  obtain⟨e1,e2⟩:=a1V zt hd;refine V ?_;refine Rt U U ?_;rw [e1,e2];exact congrArg (λb=>D.zZ [.v (.int .u64 (Ar s:Int)),.b b]) (y7.2 xE)
instance:Cn prog 308 (type_of% @md):=⟨@md⟩
theorem Qp (t:Int):yq prog 162 [.i t] (.i (form t)):=by
 unfold form;exact an func162 U ntmps162 U (λe=>Y)
instance:Cn prog 162 (type_of% @Qp):=⟨@Qp⟩
theorem OB (c t:Int) (k:Bool):yq prog 76 [.i c,.i t,.b k] (.b (B6 c t k)):=by
 unfold B6;cases k<;>exact an func76 U ntmps76 U (λe=>Y)
instance:Cn prog 76 (type_of% @OB):=⟨@OB⟩
theorem uM (l r:yG) (hl:l.length<=1000000000000):yq prog 212 [.bs l,.bs r] (.b (C7 l r)):=by
 refine an func212 U ntmps212 U (λe=>?_);refine V ?_;refine Lp (γ:=Nat) (λk=>k<=l.length/\k<=r.length/\C7 l r=C7 (l.drop k) (r.drop k)) (λk=>l.length+1-k) (λk=>[(0,.d (.bs l)),(1,.d (.bs r)),(5,.d (.i (k:Int)))]) (λ_=>[]) 0 ⟨by omega,by omega,U⟩ y9 trivial ?_;rintro k ⟨hk,hk',he⟩;have fin:l.length<=k\/r.length<=k->C7 l r=decide ((l.length:Int)<r.length):=λh=>by rw [he,xt l r k hk hk' h]
 refine V ?_;refine Bg U U (λq1=>?_) (λq1=>?_)
 ·refine V ?_;refine Ci U (λq2=>?_) (λq2=>?_)
  ·have h1:k<l.length:=by omega
   have h2:k<r.length:=by omega
   have hs:=tS l r k h1 h2;have g1:=aU (z:=(0:UInt8)) h1;have g2:=aU (z:=(0:UInt8)) h2;refine V ?_;refine Ci U (λq3=>?_) (λq3=>?_)
   ·refine V ?_;refine Rt U U ?_;rw [he,hs,<- g1,<- g2,xC (λe=>q3 (by rw [e]))];exact congrArg D.b (y7.2 (by rw [A8];omega))
   refine V ?_;refine⟨k+1,by omega,⟨by omega,by omega,?_⟩,y9,trivial⟩;rw [he,hs,<- g1,<- g2,xD (zh.1 xE)]
  ·refine V ?_;refine Rt U U ?_;rw [fin xE];rfl
 ·refine V ?_;refine Rt U U ?_;rw [fin xE];rfl
instance:Cn prog 212 (type_of% @uM):=⟨@uM⟩
theorem uw (s:yG) (hl:s.length<=140737488355328):yq prog 317 [.s s] (.b (Aw (λc _=>H' c) s 0)):=by
 rw [qp a5r _ s (aB _)];refine an func317 U ntmps317 U (λe=>?_);refine V ?_;refine Lp (γ:=Nat) (λp=>p<=s.length/\(s.all λb=>H' b.toNat)=(s.drop p).all λb=>H' b.toNat) (λp=>s.length+1-p) (λp=>[(0,.d (.s s)),(3,.d (.s OK)),(4,.d (.i (p:Int)))]) (λ_=>[]) 0 ⟨by omega,U⟩ y9 trivial ?_;rintro p ⟨hp,hq⟩;refine V ?_;refine Ci U (λg=>?_) (λg=>?_)
 ·have DW:=wn H' s p xE;have hbp:=bn s p;refine JD.skip ?_;refine JD.seq ?_;refine JD.block ?_
  repeat (refine JD.seq ?_)
  refine JD.region ?_;refine R3 U U ?_;refine aI (yi.ixS p U U U HR cq U U) ?_;refine aI (yi.cvI U (by decide +kernel) xE U U) ?_;refine R3 U U ?_;refine Al.nil ?_;refine JD.seq ?_;refine Jm (γ:=Bool) (λv=>[(0,.d (.s s)),(3,.d (.s OK)),(4,.d (.i (p:Int))),(6,.d (.bq v))]) (λ_=>[]) (λv=>v=OL (xF s p)) ?_ ?_
  ·refine V ?_;refine Bg U U (λq=>?_) (λq=>?_)
   ·refine V ?_;exact⟨true,by unfold OL;rw [ae xE];rfl,⟨⟨_,U,az⟩,⟨_,U,az⟩,⟨_,U,az⟩,⟨_,U,dL⟩,trivial⟩,trivial⟩
   refine V ?_;refine Bg U U (λq2=>?_) (λq2=>?_)
   ·refine V ?_;exact⟨true,by unfold OL;rw [ae (p:=97<=(xF s p:Int)/\(xF s p:Int)<=122) xE];simp,⟨⟨_,U,az⟩,⟨_,U,az⟩,⟨_,U,az⟩,⟨_,U,dL⟩,trivial⟩,trivial⟩
   refine V ?_;exact⟨_,by unfold OL;rw [ah (p:=65<=(xF s p:Int)/\(xF s p:Int)<=90) xE,ah (p:=97<=(xF s p:Int)/\(xF s p:Int)<=122) xE,Ko];rfl,⟨⟨_,U,az⟩,⟨_,U,az⟩,⟨_,U,az⟩,⟨_,U,az⟩,trivial⟩,trivial⟩
  rintro v0 hv0;refine V ?_;refine Lq (γ:=Nat×Bool) (λz=>z.1<=12/\z.2=(OL (xF s p)||JK (xF s p) (OK.take z.1))) (λz=>13-z.1) (λz=>[(0,.d (.s s)),(3,.d (.s OK)),(4,.d (.i (p:Int))),(6,.d (.bq z.2)),(7,.d (.i (z.1:Int)))]) (λ_=>[]) (0,v0) ⟨by simp,by rw [hv0];simp [JK]⟩ ⟨⟨_,U,az⟩,⟨_,U,az⟩,⟨_,U,az⟩,⟨_,U,az⟩,⟨_,U,az⟩,trivial⟩ trivial ?_;rintro⟨z,v⟩ ⟨hz,hv⟩;dsimp only at hz hv;show JD _ _ _ _ _ [(0,.d (.s s)),(3,.d (.s OK)),(4,.d (.i (p:Int))),(6,.d (.bq v)),(7,.d (.i (z:Int)))] [];have Le:OK.length=12:=rfl;refine V ?_;refine Ci U (λg2=>?_) (λg2=>?_)
  ·have hnx:=wP (xF s p) z xE;cases v with
   |true =>
    refine V ?_;exact⟨(z+1,true),by simp only;omega,⟨by simp only;omega,by simp only;rw [hnx,<- Bool.or_assoc,<- hv];rfl⟩,⟨⟨_,U,az⟩,⟨_,U,az⟩,⟨_,U,az⟩,⟨_,U,dL⟩,⟨_,U,az⟩,trivial⟩,trivial⟩
   |false =>
    refine V ?_;exact⟨(z+1,decide ((xF s p:Int)=xF OK z)),by simp only;omega,⟨by simp only;omega,by simp only;rw [hnx,<- Bool.or_assoc,<- hv];rfl⟩,⟨⟨_,U,az⟩,⟨_,U,az⟩,⟨_,U,az⟩,⟨_,U,az⟩,⟨_,U,az⟩,trivial⟩,trivial⟩
  have hze:z=OK.length:=by omega
  have hpc:H' (xF s p)=v:=by rw [hv,a5s,hze,xK]
  cases v with
  |false =>
   refine V ?_;refine Rt U U ?_;rw [hq,DW,hpc];rfl
  |true =>
   refine V ?_;exact⟨p+1,by omega,⟨by omega,by rw [hq,DW,hpc];rfl⟩,y9,trivial⟩
 refine V ?_;refine Rt U U ?_;rw [hq,yw xE];rfl
end Go.Proofs.YtilafeifbaaagaaGreatDoor
