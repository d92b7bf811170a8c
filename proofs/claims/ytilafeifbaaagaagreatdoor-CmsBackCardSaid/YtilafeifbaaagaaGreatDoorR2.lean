/- Parts. -/
import Derived.Laws.IdiomStrings
import Derived.Test.YtilafeifbaaagaaGreatDoorR1
set_option maxRecDepth 100000
set_option linter.unusedSimpArgs false
set_option linter.unusedVariables false
set_option linter.constructorNameAsVariable false
namespace Go.Proofs.YtilafeifbaaagaaGreatDoor
open Go.Proofs.Tryz
open Go Go.RowKit
theorem m24 {p:Prop}(u:p:=by
 refine⟨hT,?_,U⟩;have key:∀ (ds:List D) (vs:LV) (i t:Nat) (y:A),yT ds h vs->BF (GL i ds) t=some y->∃ v,look (AL i vs) t=some v/\zN ⟨λ_=>0,λ_=>none,λ_=>0,λ_=>0⟩ h y v:=by
  intro ds
  induction ds with
  |nil=>intro vs i t y _ hy;cases hy
  |cons d r ih =>
   intro vs i t y hd hy;unfold yT at hd;obtain⟨v,t',rfl,h1,h2⟩:=hd;simp only [GL,BF,AL,look] at hy |-
   cases hb:Nat.beq i t with
   |true=>simp only [hb,cond_true,au] at hy |-;subst hy;exact⟨v,U,h1⟩
   |false=>simp only [hb,cond_false] at hy |-;exact ih t' (i+1) t y h2 hy
 exact λt y hy=>key ds vs 0 t y hd hy):p:=u
theorem m44 {p:Prop}(u:p:=by
 cases hb:Nat.beq i t with
 |true=>simp only [hb,cond_true,au] at hx |-;subst hx;exact⟨y,U,hz⟩
 |false=>simp only [hb,cond_false] at hx |-;exact ih hx):p:=u
theorem m60 {p:Prop}(u:p:=by
 cases hb:Nat.beq j v with
 |true =>
  obtain rfl:=am hb;rw [hb,cond_true] at e;cases e;exact⟨w,t,e2,h1,by simp only [zN] at h2 |-;rw [q.1,q.2.1,q.2.2];exact h2,ih⟩
 |false=>rw [hb,cond_false] at e;cases e;exact⟨w,t,e2,h1,h2,ih⟩):p:=u
theorem m67 {p:Prop}(u:p:=by
 rename_i hl;obtain⟨w,h1,h2⟩:=c.s _ _ hl;rw [ja.1 h2] at h1;refine⟨j,dj,b,U,hj,?_⟩;rcases Ua hg with hh|⟨vs,hh⟩
 ·simp only [au,Value.bool.injEq] at hh;exact .inl (by rw [<- hh];exact h1)
 ·cases hh):p:=u
theorem m73 {p:Prop}(u:p:=by
 obtain⟨y1,g1,g2⟩:=sD (h:=h) q hra hy;obtain⟨y2,g3,g4⟩:=mK (aa:=ρ.a v) (c:=ρ.c v) (nn:=ρ.n v) (h:=h) (ρ:=ρ) hja g1;obtain⟨w,g5,g6⟩:=cz.s s _ g3;exact⟨w,g5,g2 w (g4 w g6)⟩):p:=u
theorem m83 {p:Prop}(u:p:=by
 have en:(ρ.yI k a2 c2 l.length).n k=l.length:=by simp [Ac.yI]
 refine⟨_,L',U,⟨Mv,K.sz,by simp [Ac.yI],?_,by rw [en];exact e5⟩,Mp.o⟩;rw [en];exact K.row.2 ⟨U,U,e4⟩):p:=u
theorem m108 {p:Prop}(u:p:=by
 by_cases hvk:v=k
 ·subst hvk;simp
 ·obtain⟨_,e1,e2,e3⟩:=jV ρ hvk (ρ.a v) (ρ.c v) (ρ.n v);rw [e1,e2,e3];simp [Ac.yI]):p:=u
theorem m112 {p:Prop}(u:p:=by
 rename_i hl;obtain⟨w,h1,h2⟩:=c.s _ _ hl;have:=U' hg;cases this;rw [ja.1 h2] at h1;exact .inr ⟨j,dj,_,U,hj,h1⟩):p:=u
theorem m124 {p:Prop}(u:p:=by
 obtain⟨_,e1,e2,e3⟩:=w i (λe=>hk (by rw [e];rfl));simp only [zN] at q |-;rw [<- e1,<- e2,<- e3];exact q):p:=u
theorem m125 {p:Prop}(u:p:=by
 obtain⟨L',Lr,h1,h2⟩:=hO.den cz.o;exact J.Hx L' h1 (k.k ρ h S L' ⟨cz.t,λt y hy=>hA.lk cz.s hy,h2⟩)):p:=u
theorem m135 {p:Prop}(u:p:=by
 simp only [L5,yy,zy];exact⟨λhm=>by obtain⟨⟨_,e'⟩,hy,rfl⟩:=y'.1 hm;exact d2 e' hy,d1⟩):p:=u
theorem m139 {p:Prop}(u:p:=by
 simp only [kE] at h;simp only [M9];cases hb:Nat.beq v k with
 |true=>have:=am hb;omega
 |false=>rfl):p:=u
theorem m149 {p:Prop}(u:p:=by
 obtain⟨e,_⟩:=w i (λe=>hk (by rw [e];rfl));simp only [zN] at q |-;rw [<- e];exact q):p:=u
theorem m159 {p:Prop}(u:p:=by
 obtain⟨h',L',hle,zt,BG⟩:=sL hp cz s.ok;exact kk.k ρ h' S L' BG ac w (s.with zt)):p:=u
theorem m167 {p:Prop}(u:p:=by
 obtain rfl:=am hq.2;have:=hc _ _ hq.1 (oQ HV hg hf);rw [hp] at this;cases this):p:=u
theorem m179 {p:Prop}(u:p:=by
 by_cases hjr:j=r.length
 ·rw [hjr];exact QJ _ _
 ·rw [lj _ hjr];exact this):p:=u
theorem m182 {p:Prop}(u:p:=by
 simp only [au,zu] at hs;obtain⟨⟨rfl,rfl,rfl⟩,rfl⟩:=hs;exact kk):p:=u
abbrev HF:=@Array.mapM_eq_mapM_toList
abbrev yN:=@Bool.not_eq_true'
abbrev BQ:=@List.any_eq_true
abbrev ym:=@Bool.not_true
abbrev yA:=@Bool.and_false
abbrev O_:=@Nat.pos_of_ne_zero
def a0M (k:Nat) (d:D):LO->Option LO
 |[]=>some []
 |(t,x)::r=>match a0M k d r with
  |some r'=>match x with
   |.row j=>bif Nat.beq j k then some ((t,.d d)::r') else some ((t,.row j)::r')
   |x=>some ((t,x)::r')
  |none=>none
def a0L (k:Nat) (d:D):List A->Option (List A)
 |[]=>some []
 |x::r=>match a0L k d r with
  |some r'=>match x with
   |.row j=>bif Nat.beq j k then some (.d d::r') else some (.row j::r')
   |x=>some (x::r')
  |none=>none
def a0K (k:Nat) (d:D):LQ->Option LQ
 |[]=>some []
 |(i,e)::r=>match a0K k d r with
  |some r'=>match e with
   |.var t cs=>match a0L k d cs with
    |some Da=>some ((i,.var t Da)::r')
    |none=>none
   |e=>some ((i,e)::r')
  |none=>none
variable{L:LE}{P:Program}{S:AH}
section
variable {ρ:Ac}{h h':Part}{k:Nat}{d:D}
def PM (ρ:Ac) (h:Part) (k:Nat) (d:D):Prop:=Den d h (.slice (ρ.a k) (ρ.n k) (ρ.c k))
theorem zN.mono (hle:h.le h') {x:A}{v:Value}(q:zN ρ h x v):zN ρ h' x v:=by
 cases x with
 |d d=>exact Den.mono hle d v q
 |own i f=>exact q
 |row i=>exact q
 |CJ l i=>obtain⟨cs,e,q⟩:=q;exact⟨cs,e,yp.mono hle l cs q⟩
 |mp i=>exact q
 |any=>trivial
theorem yZ.mono (hle:h.le h'):∀ {l:List A}{cs:LV},yZ ρ h l cs->yZ ρ h' l cs
 |[],_,q=>q
 |_::_,_,⟨v,t,e,h1,h2,h3⟩=>⟨v,t,e,h1,h2.mono hle,yZ.mono hle h3⟩
theorem J2.mono (hle:h.le h') {d:D}{sz n:Nat}{xs:LV}(q:J2 h d sz n xs):J2 h' d sz n xs:=by
 cases d<;>simp only [J2] at q |-
 ·exact⟨q.1,q.2.1,q.2.2.mono hle⟩
 ·exact⟨q.1,q.2.1,q.2.2.mono hle⟩
 ·exact⟨q.1,q.2.1,q.2.2.mono hle⟩
theorem Gl.mono (hle:h.le h') {i:Nat}{e:OE}{x:Br}(q:Gl ρ h i e x):Gl ρ h' i e x:=by
 cases e with
 |var t cs=>obtain⟨vs,h1,h2⟩:=q;exact⟨vs,h1,h2.mono hle⟩
 |B1 t d=>obtain⟨vs,h1,h2⟩:=q;exact⟨vs,h1,Den.mono hle d _ h2⟩
 |row t d=>obtain⟨xs,sz,h1,h2,h3⟩:=q;exact⟨xs,sz,h1,h2.mono hle,h3⟩
 |F3 v t d=>obtain⟨xs,sz,h1,h2,h3⟩:=q;exact⟨xs,sz,h1,h2.mono hle,h3⟩
 |Fo v b=>exact q
 |set es=>exact q
theorem Bi.mono (hle:h.le h'):∀ {o:LQ}{L:LE},Bi ρ h o L->Bi ρ h' o L
 |[],_,q=>q
 |_::_,_,⟨x,L',e,h1,h2⟩=>⟨x,L',e,h1.mono hle,Bi.mono hle h2⟩
theorem Cz.mono  [Tb P] {a:LO}{o:LQ}(hle:h.le h') (c:Cz P ρ h a o S L):Cz P ρ h' a o S L :=
 ⟨Tb.mono c.t hle,λt x hx=>by obtain⟨v,h1,h2⟩:=c.s t x hx;exact⟨v,h1,h2.mono hle⟩,c.o.mono hle⟩
theorem Q5 (q:PM ρ h k d):∀ {a a':LO},a0M k d a=some a'->∀ {t:Nat}{x:A},BF a' t=some x->∃ y,BF a t=some y/\∀ v,zN ρ h y v->zN ρ h x v
 |[],a',e,t,x,hx=>by cases e;cases hx
 |(i,y)::r,a',e,t,x,hx=>by
  simp only [a0M] at e;split at e
  ·rename_i r' hr;have ih:=Q5 q hr (t:=t) (x:=x);simp only [BF];have key:∀ z,(∀ v,zN ρ h y v->zN ρ h z v)->a'=(i,z)::r'->∃ w,(bif Nat.beq i t then some y else BF r t)=some w/\∀ v,zN ρ h w v->zN ρ h x v:=λz hz ha=>by
    subst ha;simp only [BF] at hx;exact m44
   split at e
   ·rename_i j;cases hb:Nat.beq j k with
    |true =>
     rw [hb,cond_true] at e;obtain rfl:=am hb;exact key (.d d) (λv hv=>by cases hv;exact q) (by simpa using e.symm)
    |false=>rw [hb,cond_false] at e;exact key _ (λv hv=>hv) (by simpa using e.symm)
   ·exact key _ (λv hv=>hv) (by simpa using e.symm)
  ·cases e
theorem Q4 (q:PM ρ h k d):∀ {l l':List A}{cs:LV},a0L k d l=some l'->yZ ρ h l cs->yZ ρ h l' cs
 |[],l',cs,e,hd=>by cases e;exact hd
 |y::r,l',cs,e,⟨v,t,e2,h1,h2,h3⟩=>by
  simp only [a0L] at e;split at e
  ·rename_i r' hr;have ih:=Q4 q hr h3;split at e
   ·rename_i j;cases hb:Nat.beq j k with
    |true =>
     rw [hb,cond_true] at e;obtain rfl:=am hb;cases e;exact⟨v,t,e2,h1,by cases h2;exact q,ih⟩
    |false=>rw [hb,cond_false] at e;cases e;exact⟨v,t,e2,h1,h2,ih⟩
   ·cases e;exact⟨v,t,e2,h1,h2,ih⟩
  ·cases e
theorem Q3 (q:PM ρ h k d):∀ {o o':LQ}{L:LE},a0K k d o=some o'->Bi ρ h o L->Bi ρ h o' L
 |[],o',L,e,hd=>by cases e;exact hd
 |(i,y)::r,o',L,e,⟨x,L',e2,h1,h2⟩=>by
  simp only [a0K] at e;split at e
  ·rename_i r' hr;have ih:=Q3 q hr h2;split at e
   ·split at e<;>cases e;rename_i Da Dk;obtain⟨vs,h3,h4⟩:=h1;exact⟨x,L',e2,⟨vs,h3,Q4 q Dk h4⟩,ih⟩
   ·cases e;exact⟨x,L',e2,h1,ih⟩
  ·cases e
end
def X_ (k:Nat) (a:LO) (o:LQ):Option (LO×LQ) :=
 match BH o k with
 |some (.row _ d)=>match a0M k d a,a0K k d (D9 o k) with
  |some a',some o'=>some (a',o')
  |_,_=>none
 |_=>none
def E4:List Nat->LO->LQ->Option (LO×LQ)
 |[],a,o=>some (a,o)
 |k::r,a,o=>match X_ k a o with
  |some (a',o')=>E4 r a' o'
  |none=>E4 r a o
variable{k:Nat}
section
variable {P:Program} [Tb P] {ρ:Ac}{h:Part}{S:AH}{L:LE}{a a':LO}{o o':LQ}
theorem sL {e:Env}{w:World}(hp:X_ k a o=some (a',o')) (c:Cz P ρ h a o S L) (hk:Ok e h L w):∃ h' L',h.le h'/\Ok e h' L' w/\Cz P ρ h' a' o' S L':=by
 unfold X_ at hp;split at hp
 ·rename_i t d hlk;split at hp<;>cases hp;rename_i hA hO;obtain⟨x,L',hD,⟨xs,sz,rfl,hR,hb⟩,hr⟩:=c.o.get hlk;have fin:∀ h',h.le h'->Ok e h' L' w->PM ρ h' k d->∃ h' L',h.le h'/\Ok e h' L' w/\Cz P ρ h' a' o' S L':=λh' hle zt hs =>
   ⟨h',L',hle,zt,Tb.mono c.t hle,λt x hx=>by
    obtain⟨y,h1,h2⟩:=Q5 hs hA hx;obtain⟨v,h3,h4⟩:=c.s t y h1;exact⟨v,h3,h2 v (h4.mono hle)⟩,Q3 hs hO (hr.mono hle)⟩
  have Gm:=hk.perm hD.perm;cases d<;>simp only [J2] at hR
  ·obtain⟨rfl,hn,hc⟩:=hR;obtain⟨h',h1,h2,h3⟩:=Gm.GR hc hn xE;exact fin h' h1 h3 (by unfold PM;rw [hn];exact(AU (h:=h')).2 ⟨_,_,U,h2⟩)
  ·obtain⟨rfl,hn,hc⟩:=hR;obtain⟨h',h1,h2,h3⟩:=Gm.GR hc hn xE;exact fin h' h1 h3 (by unfold PM;rw [hn];exact(dy (h:=h')).2 ⟨_,_,U,h2⟩)
  ·obtain⟨rfl,hn,hc⟩:=hR;obtain⟨h',h1,h2,h3⟩:=Gm.GR hc hn xE;exact fin h' h1 h3 (by unfold PM;rw [hn];exact(iN (h:=h')).2 ⟨_,_,U,h2⟩)
 ·cases hp
theorem dp {e:Env}{w:World}:∀ {ks:List Nat}{a a':LO}{o o':LQ}{h:Part}{L:LE},E4 ks a o=some (a',o')->Cz P ρ h a o S L->Ok e h L w->∃ h' L',h.le h'/\Ok e h' L' w/\Cz P ρ h' a' o' S L'
 |[],a,a',o,o',h,L,hp,c,hk=>by cases hp;exact⟨h,L,aP h,hk,c⟩
 |k::r,a,a',o,o',h,L,hp,c,hk=>by
  simp only [E4] at hp;split at hp
  ·rename_i a1 o1 h1;obtain⟨h',L',h2,h3,h4⟩:=sL h1 c hk;obtain⟨h'',L'',h5,h6,h7⟩:=dp hp h4 h3;exact⟨h'',L'',h2.trans h5,h6,h7⟩
  ·exact dp hp c hk
end
structure Mt (P:Program) [Tb P] (Fi:Nat) (ds:List D) (R:D->Prop):Prop where
 fn:∀ h vs,Tb.T P h->yT ds h vs->F1 P Fi vs h (λv h'=>∃ d,R d/\Den d h' v)
abbrev yq (P:Program) [Tb P] (Fi:Nat) (ds:List D) (d:D):Prop:=Mt P Fi ds (λd'=>d'=d)
theorem Mt.imp  [Tb P] {Fi:Nat}{ds:List D}{R R':D->Prop}(c:Mt P Fi ds R) (hr:∀ d,R d->R' d):Mt P Fi ds R':=.mk λh vs hT hd=>(c.fn h vs hT hd).mono λu h' _ ⟨d,h1,h2⟩=>⟨d,hr d h1,h2⟩
def Be (P:Program) [Tb P] (a:LO):List Operand->List Nat->Option (List D)
 |[],_=>some []
 |x::r,ts=>match z' a x,Be P a r ts.tail with
  |some (.d d),some l=>match ts with
   |[]=>some (d::l)
   |t::_=>match TM P t d with
    |some d'=>some (d'::l)
    |none=>none
  |_,_=>none
def EA (a:LO):List Operand->List Nat
 |[]=>[]
 |x::r=>match z' a x with
  |some (.row k)=>k::EA a r
  |_=>EA a r
def GL:Nat->List D->LO
 |_,[]=>[]
 |i,d::r=>(i,.d d)::GL (i+1) r
section
variable {P:Program} [Tb P] {F:Fd}{n:y_}{x:Nat->y_}{a a1:LO}{o o1:LQ}{ops:Array Oper}{rest:LR}
variable {d Fi:Nat}{ty:TypeId}{pos:String}{af:Array Edge}{g:Option (Nat×Bool)}{os:Array Operand}{ts:Array TypeId}{ds:List D}{R:D->Prop}
theorem cL {ρ:Ac}{h:Part}{S:AH}{L:LE}(c:Cz P ρ h a o S L):∀ {os:List Operand}{ts:List Nat}{ds:List D},Be P a os ts=some ds->∃ vs,FY S os=some vs/\yT ds h vs
 |[],ts,ds,e=>by cases e;exact⟨[],U,by unfold yT;rfl⟩
 |y::r,ts,ds,e=>by
  simp only [Be] at e;split at e
  ·rename_i d l h1 h2;obtain⟨v,h3,h4⟩:=bv c h1;obtain⟨vs,h5,h6⟩:=cL c h2;refine⟨v::vs,by simp only [FY,h3,h5],?_⟩;split at e
   ·cases e;unfold yT;exact⟨v,vs,U,h4,h6⟩
   ·split at e<;>cases e;rename_i hq;rw [oY hq];unfold yT;exact⟨v,vs,U,gz h v h4,h6⟩
  ·cases e
theorem Ce (hp:E4 (EA a os.toList) a o=some (a1,o1)) (ha:Be P a1 os.toList ts.toList=some ds) (c:Mt P Fi ds R) (k:∀ d',R d'->Al P F ops n x rest ((d,.d d')::a1) o1)
 (hF:yH P Fi=true:=by kernel_rfl) (hg:Ub ops a1 g=some true:=by rfl) (hd:Nat.blt d F.m=true:=by rfl) :
 Al P F ops n x (⟨some d,.call { callee:=.value (.func Fi),args:=os,argTypes:=ts },ty,pos,af,g⟩::rest) a o:=.mk λρ h S L cz ac w s=>by
 obtain⟨h',L',hle,zt,BG⟩:=dp hp cz s.ok;obtain⟨vs,h3,h4⟩:=cL BG ha;have fin:JL (F.fr P) ops (up P n) (λi=>up P (x i)) (⟨some d,.call { callee:=.value (.func Fi),args:=os,argTypes:=ts },ty,pos,af,g⟩::rest) S h' L':=by
  obtain⟨os⟩:=os;rcases a3X BG hg with rfl|⟨j,dj,b,rfl,h5,h6⟩
  ·exact bS hF h3 (c.fn h' vs BG.t h4) hd (λv h2 zH ⟨d',h7,h8⟩=>(k d' h7).k ρ h2 _ L' (cF (u:=.d d') (BG.mono zH) h8 d))
  ·exact JL.ZP h5 h6 hF h3 (c.fn h' vs BG.t h4) hd (λv h2 zH ⟨d',h7,h8⟩=>(k d' h7).k ρ h2 _ L' (cF (u:=.d d') (BG.mono zH) h8 d))
 exact fin ac w (s.with zt)
theorem Ca {d':D}(hp:E4 (EA a os.toList) a o=some (a1,o1)) (ha:Be P a1 os.toList ts.toList=some ds) (c:yq P Fi ds d') (k:Al P F ops n x rest ((d,.d d')::a1) o1)
 (hF:yH P Fi=true:=by kernel_rfl) (hg:Ub ops a1 g=some true:=by rfl) (hd:Nat.blt d F.m=true:=by rfl) :
 Al P F ops n x (⟨some d,.call { callee:=.value (.func Fi),args:=os,argTypes:=ts },ty,pos,af,g⟩::rest) a o :=
 Ce hp ha c (λ_ e=>e ▸ k) hF hg hd
def H_ (tmps:Array Value):ResultVar->Sem Value
 |.tmp t=>pure (tmps.getD t undef)
 |.cell a t=>do loadVar t (<- asAddr (tmps.getD a undef))
theorem dO {fn:Func}{tmps:Array Value}:results fn tmps=(do let vs <- fn.results.mapM (H_ tmps);pure (if h:vs.size=1 then vs[0] else .tuple vs)):=by
 unfold results;congr 1
def a1k (P:Program) [Tb P] (a:LO) (o:LQ):ResultVar->Option D
 |.tmp t=>match BF a t with
  |some (.d d)=>some d
  |_=>none
 |.cell t T=>match BF a t with
  |some (.own k 0)=>match BH o k,Hf (Tb.ag P) T with
   |some (.B1 _ d),some (some sz)=>match F' d with
    |some l=>bif Nat.beq l.length sz then some d else none
    |none=>none
   |some (.var _ cs),some (some sz)=>bif Nat.beq cs.length sz then match Kb cs with
    |some ds=>match Tb.fo P T ds with
     |some d'=>some d'
     |none=>some (.st ds)
    |none=>none
    else none
   |some (.var _ cs),some none=>match cs with
    |[.d d]=>some d
    |_=>none
   |_,_=>none
  |_=>none
def KI (P:Program) [Tb P] (a:LO) (o:LQ):List ResultVar->List Nat->Option (List D)
 |[],_=>some []
 |r::l,ts=>match a1k P a o r,KI P a o l ts.tail with
  |some d,some ds=>match ts with
   |[]=>some (d::ds)
   |t::_=>match TM P t d with
    |some d'=>some (d'::ds)
    |none=>none
  |_,_=>none
def yR:List D->D
 |[]=>.v (.tuple #[])
 |[d]=>d
 |l=>.zZ l
def FE (P:Program) (e:Env) (m:Nat) (fn:Func) (R:D->Prop):Fd:=⟨e,m,CU P e m fn (Cb λu h' Lo=>Lo=[]/\∃ d,R d/\Den d h' u),I9 (Cb λu h' Lo=>Lo=[]/\∃ d,R d/\Den d h' u)⟩
def IM:Nat->y_:=λ_ _ _=>False
end
section
variable {P:Program} [Tb P] {n:y_}{x:Nat->y_}{a a1:LO}{o o1:LQ}{e:Env}{m:Nat}{fn:Func}{R:D->Prop}{ρ:Ac}{h:Part}{S:AH}{L:LE}
omit [Tb P] in
theorem a2d {T b t:Nat}{v:Value}{w:World}(hk:Ok e h L w) (hT:AF P T=some none) (hm:Br.yY b t [v]∈L):(loadVar T ⟨b,0,none⟩).run P w=.ok v w:=by
 have hb:w.heap[b]?=some (.cells #[v] t (0,0)):=hk.own _ hm;have hc:w.cell? ⟨b,0,none⟩=some v:=by rw [cell_of_row w b _ _ _ _ hb];rfl
 simp [loadVar,(eP hT w).1,load,Sem.run,hc]
theorem a1j (c:Cz P ρ h a o S L) {r:ResultVar}{d:D}(hr:a1k P a o r=some d):∃ v,Den d h v/\∀ ac w,Sat e m S h L ac w->(H_ ac.tmps r).run P w=.ok v w:=by
 cases r with
 |tmp t =>
  simp only [a1k] at hr;split at hr<;>cases hr;rename_i hl;obtain⟨v,h1,h2⟩:=c.s _ _ hl;exact⟨v,h2,λac w s=>by simp [H_,s.slot t v h1]⟩
 |cell t T =>
  simp only [a1k] at hr;split at hr
  ·rename_i k hl;obtain⟨v,h1,h2⟩:=c.s _ _ hl;cases h2;have key:∀ v:Value,(∀ ac w,Sat e m S h L ac w->(loadVar T ⟨ρ.b k,0,none⟩).run P w=.ok v w)->∀ ac w,Sat e m S h L ac w->(H_ ac.tmps (.cell t T)).run P w=.ok v w:=λv hv ac w s=>by
    simp [H_,s.slot t _ h1,asAddr,hv ac w s]
   split at hr
   ·rename_i t' d' sz hk ha;split at hr
    ·rename_i l hc;cases hs:Nat.beq l.length sz with
     |false=>rw [hs] at hr;cases hr
     |true =>
      rw [hs,cond_true] at hr;cases hr;have CP:=am hs;obtain⟨y,L',hD,⟨vs,rfl,hR⟩,_⟩:=c.o.get hk;obtain⟨ws,e',h4⟩:=(eX hc).1 hR;have hcv:vs=ws:=by injection e' with e';simpa using congrArg Array.toList e'
      subst hcv;exact⟨_,hR,key _ λac w s=>gB s.ok (Tb.agg ha) hD.mem (by rw [h4.len,CP])⟩
    ·cases hr
   ·rename_i t' cs sz hk ha;cases hs:Nat.beq cs.length sz with
    |false=>rw [hs] at hr;cases hr
    |true =>
     rw [hs,cond_true] at hr;have CP:=am hs;obtain⟨y,L',hD,⟨vs,rfl,hR⟩,_⟩:=c.o.get hk;have hlen:=hR.len;split at hr
     ·rename_i ds Va;have hL:=hR.ds Va;refine⟨.agg vs.toArray,?_,key _ λac w s=>gB s.ok (Tb.agg ha) hD.mem (by rw [hlen,CP])⟩;split at hr<;>cases hr
      ·rename_i d' J_;exact Tb.J_ J_ _ _ hL
      ·exact(cA (h:=h)).2 ⟨_,U,hL⟩
     ·cases hr
   ·rename_i t' cs hk ha;obtain⟨y,L',hD,⟨vs,rfl,hR⟩,_⟩:=c.o.get hk;split at hr<;>cases hr;rename_i d' Dk;obtain⟨v,t2,e2,h3,h4,h5⟩:=hR;simp only [yZ] at h5;subst e2 h5;exact⟨v,h4,key _ λac w s=>a2d s.ok (Tb.agg ha) hD.mem⟩
   ·cases hr
  ·cases hr
theorem ox (c:Cz P ρ h a o S L):∀ {rs:List ResultVar}{ts:List Nat}{ds:List D},KI P a o rs ts=some ds->∃ vs,yT ds h vs/\∀ ac w,Sat e m S h L ac w->(rs.mapM (H_ ac.tmps)).run P w=.ok vs w
 |[],ts,ds,hr=>by cases hr;exact⟨[],by unfold yT;rfl,λac w s=>by simp⟩
 |r::l,ts,ds,hr=>by
  simp only [KI] at hr;split at hr
  ·rename_i d Iu h1 h2;obtain⟨v,h3,h4⟩:=a1j (e:=e) (m:=m) c h1;obtain⟨vs,h5,h6⟩:=ox c h2;refine⟨v::vs,?_,λac w s=>by simp [h4 ac w s,h6 ac w s]⟩;split at hr
   ·cases hr;unfold yT;exact⟨v,vs,U,h3,h5⟩
   ·split at hr<;>cases hr;rename_i hq;rw [oY hq];unfold yT;exact⟨v,vs,U,gz h v h3,h5⟩
  ·cases hr
def Ye:LQ->List Nat
 |[]=>[]
 |(k,.row _ _)::r=>k::Ye r
 |_::r=>Ye r
def RtD (P:Program) [Tb P] (fn:Func) (R:D->Prop):y_:=λa o=>∃ a1 o1 ds,E4 (Ye o) a o=some (a1,o1)/\KI P a1 o1 fn.results.toList fn.resultTypes.toList=some ds/\R (yR ds)
theorem WC (k:up P (RtD P fn R) S h L) {ac:Act}{w:World}(s:Sat e m S h L ac w):∃ S h' L',Sat e m S h' L' ac w/\CU P e m fn (Cb λu h' Lo=>Lo=[]/\∃ d,R d/\Den d h' u) S h' L':=by
 obtain⟨ρ,a,o,cz,a1,o1,ds,hp,hr,hR⟩:=k;obtain⟨h',L',hle,zt,BG⟩:=dp hp cz s.ok;obtain⟨vs,h1,h2⟩:=ox (e:=e) (m:=m) BG hr;have hlen:=h1.len;have Gc:∀ ac w,Sat e m S h' L' ac w->(fn.results.mapM (H_ ac.tmps)).run P w=.ok vs.toArray w:=λac w s=>by
  have:=h2 ac w s;rw [HF];simp [this]
 refine⟨S,h',L',s.with zt,?_⟩;have fin:∀ v,(∀ ac w,Sat e m S h' L' ac w->(results fn ac.tmps).run P w=.ok v w)->Den (yR ds) h' v->CU P e m fn (Cb λu h' Lo=>Lo=[]/\∃ d,R d/\Den d h' u) S h' L':=λv hv hd =>
  ⟨v,[],L',λac w s=>hv ac w s,.nil,v,U,U,_,hR,hd⟩
 match ds,vs,h1,hlen with
 |[],[],h1,_=>exact fin (.tuple #[]) (λac w s=>by rw [dO];simp [Gc ac w s]) (bh (h:=h'))
 |[d],[v],h1,_ =>
  unfold yT at h1;obtain⟨v',t,e1,h3,h4⟩:=h1;cases e1;exact fin v (λac w s=>by rw [dO];simp [Gc ac w s]) h3
 |d::d2::r,v::v2::r',h1,_=>exact fin (.tuple (v::v2::r').toArray) (λac w s=>by rw [dO];simp [Gc ac w s]) ((kJ (h:=h')).2 ⟨_,U,h1⟩)
theorem Rt {ds:List D}(hp:E4 (Ye o) a o=some (a1,o1)) (hr:KI P a1 o1 fn.results.toList fn.resultTypes.toList=some ds) (hR:R (yR ds)):JD P (FE P e m fn R) .ret n x a o:=.mk λρ h S L cz ac w s=>by
 obtain⟨S',h',L',s',hh⟩:=WC ⟨ρ,a,o,cz,a1,o1,ds,hp,hr,hR⟩ s;exact dm (f:=(FE P e m fn R).fr P) (n:=up P n) (x:=λi=>up P (x i)) hh ac w s'
theorem Mt.intro {Fi:Nat}{c:Code}{ds:List D}(hf:P.funcs[Fi]?=some fn) (hb:fn.body=some c) (hm:fn.ntmps=m) (hl:Nat.ble ds.length m=true) (k:∀ e,JD P (FE P e m fn R) c (RtD P fn R) IM (GL 0 ds) []):Mt P Fi ds R:=.mk λh vs hT hd=>by
 have hlen:=hd.len;refine aQ hf hb hm (by rw [hlen];exact hl) (λe he=>?_);have cz:Cz P ⟨λ_=>0,λ_=>none,λ_=>0,λ_=>0⟩ h (GL 0 ds) [] (AL 0 vs) []:=by
  exact m24
 intro ac w s;refine LG ((k e).k _ h _ _ cz ac w s) (λex a' w' q=>?_);cases ex with
 |normal=>obtain⟨S',h',L',s',q'⟩:=q;obtain⟨S2,h2,L2,s2,hh⟩:=WC q' s';exact⟨S2,h2,L2,s2,hh⟩
 |exit i=>obtain⟨S',h',L',s',⟨_,_,_,_,hh⟩,_⟩:=q;exact hh.elim
 |goto i=>obtain⟨S',h',L',s',⟨_,_,_,_,hh⟩⟩:=q;exact hh.elim
 |_=>exact q
abbrev an:=@Mt.intro
end
variable{h:Part}
theorem ll {d:D}{vs:LV}(k:yT [d] h vs):∃ v,vs=[v]/\Den d h v:=by
 unfold yT at k;obtain⟨v,t,rfl,h1,k⟩:=k;unfold yT at k;subst k;exact⟨v,U,h1⟩
theorem Zf {d e:D}{vs:LV}(k:yT [d,e] h vs):∃ v w,vs=[v,w]/\Den d h v/\Den e h w:=by
 unfold yT at k;obtain⟨v,t,rfl,h1,k⟩:=k;obtain⟨w,rfl,h2⟩:=ll k;exact⟨v,w,U,h1,h2⟩
theorem rE {d e:D}{v w:Value}(h1:Den d h v) (h2:Den e h w):Den (.zZ [d,e]) h (.tuple #[v,w]):=(kJ (h:=h)).2 ⟨[v,w],U,by unfold yT;exact⟨_,_,U,h1,by unfold yT;exact⟨_,_,U,h2,by unfold yT;rfl⟩⟩⟩
theorem Pure.d  [Tb P] {Fi:Nat}{vs:LV}{u:Value}{d:D}(c:Pure P Fi vs h u) (hd:Den d h u):F1 P Fi vs h (λv h'=>∃ d',d'=d/\Den d' h' v):=Fn.mono c λ_ _ _ hle ⟨v,e,e1,e2,e3⟩=>⟨v,e,e3,d,U,by rw [e1];exact Den.mono hle d u hd⟩
inductive L6 {α:Type _} (Q:α->Prop):List α->Prop where
 |nil:L6 Q []
 |cons {x:α} {l:List α} (h:Q x) (t:L6 Q l):L6 Q (x::l)
def HZ {α:Type _}:List (Nat×α)->Nat->Option α
 |[],_=>none
 |(a,b)::r,k=>bif Nat.beq a k then some b else HZ r k
theorem jy {α:Type _}{Q:Nat×α->Prop}{l:List (Nat×α)}(q:L6 Q l) {k:Nat}{v:α}(h:HZ l k=some v):Q (k,v):=by
 induction q with
 |nil=>cases h
 |@cons x l hx _ ih =>
  obtain⟨a,b⟩:=x;simp only [HZ] at h;cases hb:Nat.beq a k with
  |true =>
   obtain rfl:=am hb;simp only [hb,cond_true,au] at h;subst h;exact hx
  |false=>simp only [hb,cond_false] at h;exact ih h
theorem yp.n :yp [] h []:=by unfold yp;rfl
theorem yp.c {d:D}{r:List D}{v:Value}{t:LV}(h1:v.oneCell'=true) (h2:Den d h v) (h3:yp r h t):yp (d::r) h (v::t):=by unfold yp;exact⟨v,t,U,h1,h2,h3⟩
theorem a2P {b:Bool}:Den (.bq b) h (.bool b):=(cC (h:=h)).2 U
theorem kK :Den (.bs []) h (.slice none 0 0):=(AU (h:=h)).2 ⟨none,0,U,bA⟩
theorem lR :Den (.AX []) h (.slice none 0 0):=(dy (h:=h)).2 ⟨none,0,U,bA⟩
variable{α:Type}
theorem eY {sz:Nat}{enc:α->List D}:Den (.sl sz enc []) h (.slice none 0 0):=(iN (h:=h)).2 ⟨none,0,U,bA⟩
abbrev yG:=LB
abbrev D.s (s:yG):D:=.v (.string ⟨s.toArray⟩)
abbrev D.i (i:Int):D:=.v (.int .i64 i)
abbrev D.b (b:Bool):D:=.bq b
def KD (x:Nat):List D:=[.v (.int .u64 (x:Int))]
def Ie (x:UInt32):List D:=[.v (.int .u32 (x.toNat:Int))]
abbrev D.ws (l:List UInt32):D:=.sl 1 Ie l
structure At where
 zJ:yG
 kind:Int
 text:yG
instance:Inhabited At:=⟨⟨[],0,[]⟩⟩
def At.enc (a:At):List D:=[.s a.zJ,.i a.kind,.s a.text]
structure Xt where
 zJ:yG
 a2Z:Bool
 val:yG
instance:Inhabited Xt:=⟨⟨[],false,[]⟩⟩
def Xt.enc (e:Xt):List D:=[.s e.zJ,.b e.a2Z,.bs e.val]
structure Ky where
 n:List UInt32
 e:List UInt32
 d:List UInt32
instance:Inhabited Ky:=⟨⟨[],[],[]⟩⟩
def Ky.enc (k:Ky):List D:=[.ws k.n,.ws k.e,.ws k.d]
structure BU where
 xU:List UInt32
 hash:Int
 yg:List At
 AR:List At
 O8:Int
 NX:Int
 key:Ky
 exts:List Xt
 sig:yG
instance:Inhabited BU:=⟨⟨[],0,[],[],0,0,default,[],[]⟩⟩
def BU.enc (c:BU):List D:=[.ws c.xU,.i c.hash,.sl 3 At.enc c.yg,.sl 3 At.enc c.AR,.i c.O8,.i c.NX,.ws c.key.n,.ws c.key.e,.ws c.key.d,.sl 3 Xt.enc c.exts,.bs c.sig]
structure Fct where
 NC:Bool
 ca:Bool
 path:Int
 NB:Bool
 a3s:Int
 a7O:List yG
 Ec:yG
def Fct.enc (f:Fct):List D:=[.b f.NC,.b f.ca,.i f.path,.b f.NB,.i f.a3s,.sl 1 Fj f.a7O,.bs f.Ec]
structure UT where
 at_:Int
 code:Int
def UT.enc (f:UT):List D:=[.i f.at_,.i f.code]
def bE (b:yG):List D:=[.bs b]
structure Fe where
 zJ:yG
 yB:List yG
instance:Inhabited Fe:=⟨⟨[],[]⟩⟩
def Fe.enc (f:Fe):List D:=[.s f.zJ,.sl 1 bE f.yB]
structure Sg where
 yg:List At
 xU:List UInt32
 Ec:yG
 hash:Int
 signed:List Fe
 sig:yG
 yc:List Fe
instance:Inhabited Sg:=⟨⟨[],[],[],0,[],[],[]⟩⟩
def Sg.enc (s:Sg):List D:=[.sl 3 At.enc s.yg,.ws s.xU,.bs s.Ec,.i s.hash,.sl 2 Fe.enc s.signed,.bs s.sig,.sl 2 Fe.enc s.yc]
structure Gn where
 xU:List UInt32
 at_:Int
instance:Inhabited Gn:=⟨⟨[],0⟩⟩
def Gn.enc (g:Gn):List D:=[.ws g.xU,.i g.at_]
structure Cl where
 hash:Int
 yg:List At
 this:Int
 next:Int
 gone:List Gn
 sig:yG
instance:Inhabited Cl:=⟨⟨0,[],0,0,[],[]⟩⟩
def Cl.enc (c:Cl):List D:=[.i c.hash,.sl 3 At.enc c.yg,.i c.this,.i c.next,.sl 2 Gn.enc c.gone,.bs c.sig]
structure Sd where
 type:yG
 has:Bool
 content:yG
 yj:List BU
 crls:List Cl
 signers:List Sg
instance:Inhabited Sd:=⟨⟨[],false,[],[],[],[]⟩⟩
def Sd.enc (s:Sd):List D:=[.s s.type,.b s.has,.bs s.content,.sl 11 BU.enc s.yj,.sl 6 Cl.enc s.crls,.sl 7 Sg.enc s.signers]
def boD:D->Option Bool
 |.bq b=>some b
 |.v (.bool b)=>some b
 |_=>none
def bsD:D->Option yG
 |.bs l=>some l
 |.v (.slice none 0 0)=>some []
 |_=>none
def a22:D->Option LN
 |.AX l=>some l
 |.v (.slice none 0 0)=>some []
 |_=>none
theorem we {d:D}{b:Bool}{v:Value}(e:boD d=some b) (k:Den d h v):Den (.bq b) h v:=by
 unfold boD at e;split at e<;>cases e
 ·exact k
 ·rw [cY.1 k];exact(cC (h:=h)).2 U
theorem rR {d:D}{b:yG}{v:Value}(e:bsD d=some b) (k:Den d h v):Den (.bs b) h v:=by
 unfold bsD at e;split at e<;>cases e
 ·exact k
 ·rw [cY.1 k];exact kK
theorem QS {d:D}{b:LN}{v:Value}(e:a22 d=some b) (k:Den d h v):Den (.AX b) h v:=by
 unfold a22 at e;split at e<;>cases e
 ·exact k
 ·rw [cY.1 k];exact lR
def Pq:List D->Option D
 |[.v (.int .i64 c),.v (.int .i64 t),k,b,l]=>match boD k,bsD b,a22 l with
  |some k,some b,some l=>some (.nd (.mk c t k b l))
  |_,_,_=>none
 |_=>none
def Pr:List D->Option D
 |[.v (.string ⟨⟨s⟩⟩),.v (.int .i64 k),.v (.string ⟨⟨t⟩⟩)]=>some (.st (At.enc ⟨s,k,t⟩))
 |_=>none
def Pp:List D->Option D
 |[.v (.string ⟨⟨s⟩⟩),k,t]=>match boD k,bsD t with
  |some k,some t=>some (.st (Xt.enc ⟨s,k,t⟩))
  |_,_=>none
 |_=>none
def Ml:List D->Option D
 |[.v (.int .i64 s),.v (.int .i64 k)]=>some (.st (UT.enc ⟨s,k⟩))
 |_=>none
def ID (f:List D->Option D):Prop:=∀ {ds d},f ds=some d->∀ h cs,yp ds h cs->Den d h (.agg cs.toArray)
theorem Ud:ID Pq:=by
 intro ds d hf h cs k;unfold Pq at hf;split at hf
 ·split at hf<;>cases hf;rename_i e1 e2 e3;unfold yp at k;obtain⟨v1,t1,rfl,o1,d1,k⟩:=k;unfold yp at k;obtain⟨v2,t2,rfl,o2,d2,k⟩:=k;unfold yp at k;obtain⟨v3,t3,rfl,o3,d3,k⟩:=k;unfold yp at k;obtain⟨v4,t4,rfl,o4,d4,k⟩:=k;unfold yp at k;obtain⟨v5,t5,rfl,o5,d5,k⟩:=k;exact(fw (h:=h)).2 ⟨_,U,r8.2 (.c o1 d1 (.c o2 d2 (.c o3 (we e1 d3) (.c o4 (rR e2 d4) (.c o5 (QS e3 d5) k)))))⟩
 ·cases hf
theorem Ue:ID Pr:=by
 intro ds d hf h cs k;unfold Pr at hf;split at hf<;>cases hf;exact(cA (h:=h)).2 ⟨_,U,k⟩
theorem Uc:ID Pp:=by
 intro ds d hf h cs k;unfold Pp at hf;split at hf
 ·split at hf<;>cases hf;rename_i e1 e2;unfold yp at k;obtain⟨v1,t1,rfl,o1,d1,k⟩:=k;unfold yp at k;obtain⟨v2,t2,rfl,o2,d2,k⟩:=k;unfold yp at k;obtain⟨v3,t3,rfl,o3,d3,k⟩:=k;exact(cA (h:=h)).2 ⟨_,U,.c o1 d1 (.c o2 (we e1 d2) (.c o3 (rR e2 d3) k))⟩
 ·cases hf
theorem x_:ID Ml:=by
 intro ds d hf h cs k;unfold Ml at hf;split at hf<;>cases hf;exact(cA (h:=h)).2 ⟨_,U,k⟩
def a3Y:Option D->D->Option D
 |some e,.v (.slice none 0 0)=>some e
 |_,.v (.bool b)=>some (.bq b)
 |_,d=>some d
def RL:List (Option D)->List D->Option (List D)
 |[],[]=>some []
 |t::ts,d::ds=>match a3Y t d,RL ts ds with
  |some d',some r=>some (d'::r)
  |_,_=>none
 |_,_=>none
def EX (t:List (Option D)) (ds:List D):Option D:=match RL t ds with
 |some r=>some (.st r)
 |none=>none
theorem vz {h:Part}:∀ {t:List (Option D)}{ds r:List D}{cs:LV},L6 (λx=>∀ e,x=some e->∀ h,Den e h (.slice none 0 0)) t->RL t ds=some r->yp ds h cs->yp r h cs
 |[],[],r,cs,_,e,k=>by cases e;exact k
 |t::ts,d::ds,r,cs,.cons ht Lc,e,k=>by
  simp only [RL] at e;split at e<;>cases e;rename_i d' r' h1 h2;unfold yp at k |-
  obtain⟨v,s,rfl,o1,k1,k2⟩:=k;refine⟨v,s,U,o1,?_,vz Lc h2 k2⟩;unfold a3Y at h1;split at h1<;>cases h1
  ·rw [cY.1 k1];exact ht _ U h
  ·rw [cY.1 k1];exact(cC (h:=h)).2 U
  ·exact k1
 |[],_::_,_,_,_,e,_=>by cases e
 |_::_,[],_,_,_,e,_=>by cases e
theorem dH {t:List (Option D)}(ht:L6 (λx=>∀ e,x=some e->∀ h,Den e h (.slice none 0 0)) t):ID (EX t):=by
 intro ds d hf h cs k;unfold EX at hf;split at hf<;>cases hf;rename_i r hr;exact(cA (h:=h)).2 ⟨_,U,vz ht hr k⟩
def KO {α:Type}(g:D->Option α):List D->Option (List α)
 |[]=>some []
 |d::r=>match g d,KO g r with
  |some x,some l=>some (x::l)
  |_,_=>none
def UR {α:Type}(enc:α->List D) (sz:Nat) (g:D->Option α):Prop:=∀ {d:D}{x:α}{h:Part}{v:Value},g d=some x->Den d h v->v.cells.toList.length=sz/\yp (enc x) h v.cells.toList
theorem vl {α:Type}{enc:α->List D}{sz:Nat}{g:D->Option α}(hg:UR enc sz g) {h:Part}:∀ {ds:List D}{vs:LV}{l:List α},KO g ds=some l->yT ds h vs->Fa (λ(y:α) (v:Value)=>v.cells.toList.length=sz/\IW enc h v.cells.toList y) l vs
 |[],vs,l,e,k=>by cases e;unfold yT at k;subst k;exact .nil
 |d::r,vs,l,e,k=>by
  simp only [KO] at e;split at e<;>cases e;rename_i x l h1 h2;unfold yT at k;obtain⟨v,t,rfl,h3,h4⟩:=k;exact .cons (hg h1 h3) (vl hg h2 h4)
theorem lO {enc:α->List D}{sz:Nat}{g:D->Option α}(hg:UR enc sz g) (h0:0<sz) {h:Part}{ds:List D}{vs:LV}{l:List α}(e:KO g ds=some l) (hn:0<ds.length) (k:yT ds h vs):NU h (.sl sz enc l) vs:=by
 have h1:=vl hg e k;have h2:=k.len;have h3:=iK h1;refine⟨⟨U,by rw [h3],dS h1⟩,λc hc=>?_,by omega,h0⟩;have all:∀ {l:List α} {vs:LV},Fa (λ(y:α) (v:Value)=>v.cells.toList.length=sz/\IW enc h v.cells.toList y) l vs->∀ c∈vs,c.cells.toList.length=sz:=by
  intro l vs hh
  exact m29
 exact all h1 c hc
def a7p:D->Option At
 |.st [.v (.string ⟨⟨s⟩⟩),.v (.int .i64 k),.v (.string ⟨⟨t⟩⟩)]=>some ⟨s,k,t⟩
 |_=>none
def a4p:D->Option Xt
 |.st [.v (.string ⟨⟨s⟩⟩),k,t]=>match boD k,bsD t with
  |some k,some t=>some ⟨s,k,t⟩
  |_,_=>none
 |_=>none
theorem a3h:UR At.enc 3 a7p:=by
 intro d x h v e k;unfold a7p at e;split at e<;>cases e;obtain⟨cs,rfl,k2⟩:=cA.1 k;have:=k2.len;exact⟨by simpa [Value.cells] using this,show yp _ h cs from k2⟩
theorem a0s:UR Xt.enc 3 a4p:=by
 intro d x h v e k;unfold a4p at e;split at e
 ·split at e<;>cases e;rename_i e1 e2;obtain⟨cs,rfl,k2⟩:=cA.1 k;have:=k2.len;have k:=k2;unfold yp at k;obtain⟨v1,t1,rfl,o1,d1,k⟩:=k;unfold yp at k;obtain⟨v2,t2,rfl,o2,d2,k⟩:=k;unfold yp at k;obtain⟨v3,t3,rfl,o3,d3,k⟩:=k;exact⟨by simpa [Value.cells] using this,(.c o1 d1 (.c o2 (we e1 d2) (.c o3 (rR e2 d3) k)):yp (Xt.enc ⟨_,_,_⟩) h (v1::v2::v3::t3))⟩
 ·cases e
def a5D (p:yG×Nd):List D:=.bs p.1::p.2.enc
def oneOf:D->Option (yG×Nd)
 |.st [b,.v (.int .i64 c),.v (.int .i64 t),k,bb,l]=>match bsD b,boD k,bsD bb,a22 l with
  |some b,some k,some bb,some l=>some (b,.mk c t k bb l)
  |_,_,_,_=>none
 |_=>none
theorem Xr:UR a5D 6 oneOf:=by
 intro d x h v e k;unfold oneOf at e;split at e
 ·split at e<;>cases e;rename_i e0 e1 e2 e3;obtain⟨cs,rfl,k2⟩:=cA.1 k;have:=k2.len;have k:=k2;unfold yp at k;obtain⟨v0,t0,rfl,o0,d0,k⟩:=k;unfold yp at k;obtain⟨v1,t1,rfl,o1,d1,k⟩:=k;unfold yp at k;obtain⟨v2,t2,rfl,o2,d2,k⟩:=k;unfold yp at k;obtain⟨v3,t3,rfl,o3,d3,k⟩:=k;unfold yp at k;obtain⟨v4,t4,rfl,o4,d4,k⟩:=k;unfold yp at k;obtain⟨v5,t5,rfl,o5,d5,k⟩:=k;exact⟨by simpa [Value.cells] using this,(.c o0 (rR e0 d0) (.c o1 d1 (.c o2 d2 (.c o3 (we e1 d3) (.c o4 (rR e2 d4) (.c o5 (QS e3 d5) k))))):yp (a5D (_,.mk _ _ _ _ _)) h (v0::v1::v2::v3::v4::v5::t5))⟩
 ·cases e
def a7e:D->Option yG
 |.bs l=>some l
 |_=>none
theorem a3c:UR bE 1 a7e:=by
 intro d x h v e k;unfold a7e at e;split at e<;>cases e;obtain⟨a,c,rfl,r⟩:=AU.1 k;exact⟨U,(.c U k .n:yp (bE x) h [_])⟩
def Y9 (ds:List D):Option D:=match KO a7p ds with
 |some (x::l)=>some (.sl 3 At.enc (x::l))
 |_=>match KO a4p ds with
  |some (x::l)=>some (.sl 3 Xt.enc (x::l))
  |_=>match KO oneOf ds with
   |some (x::l)=>some (.sl 6 a5D (x::l))
   |_=>match KO a7e ds with
    |some (x::l)=>some (.sl 1 bE (x::l))
    |_=>none
theorem jr {α:Type}{g:D->Option α}:∀ {ds:List D}{l:List α},KO g ds=some l->ds.length=l.length
 |[],l,e=>by cases e;rfl
 |d::r,l,e=>by
  simp only [KO] at e;split at e<;>cases e;rename_i h2;simp [jr h2]
theorem Y8 {ds:List D}{vs:LV}{d:D}(e:Y9 ds=some d) (k:yT ds h vs):NU h d vs:=by
 unfold Y9 at e;split at e
 ·cases e;rename_i hm;exact lO a3h yD hm (by rw [jr hm];simp) k
 ·split at e
  ·cases e;rename_i hm;exact lO a0s yD hm (by rw [jr hm];simp) k
  ·split at e
   ·cases e;rename_i hm;exact lO Xr yD hm (by rw [jr hm];simp) k
   ·split at e<;>cases e;rename_i hm;exact lO a3c yD hm (by rw [jr hm];simp) k
structure Ef where
 us:List Nat
 rd:List Nat
 dst:Option (Nat×A)
 key:Option (Nat×OE)
 Nj:Bool
 new:Option Nat
abbrev IX (us:List Nat) (rd:List Nat) (d:Nat) (u:A):Ef:=⟨us,rd,some (d,u),none,false,none⟩
abbrev eMk (us:List Nat) (d k:Nat) (u:A) (e:OE):Ef:=⟨us,[],some (d,u),some (k,e),true,some k⟩
abbrev b1p (us:List Nat) (k:Nat) (e:OE):Ef:=⟨us,[],none,some (k,e),false,none⟩
abbrev a9e (us:List Nat) (d k v:Nat) (e:OE):Ef:=⟨us,[],some (d,.row v),some (k,e),false,some v⟩
def Ef.put (f:Ef) (a:LO):LO:=match f.dst with
 |some y=>y::a
 |none=>a
def aR (p:Nat->Bool) (b:LO):List Ef->LO
 |[]=>b
 |f::r=>match f.dst with
  |some y=>bif p r.length then y::aR p b r else aR p b r
  |none=>aR p b r
def tR (p:Nat->Bool) (b:Nat->Option OE) (k:Nat):List Ef->Option OE
 |[]=>b k
 |f::r=>match f.key with
  |some (k',e)=>bif p r.length&&Nat.beq k' k then some e else tR p b k r
  |none=>tR p b k r
def oS (b:LQ):List Ef->LQ
 |[]=>b
 |f::r=>match f.key with
  |none=>oS b r
  |some (k,e)=>match f.Nj with
   |true=>(k,e)::oS b r
   |false=>(k,e)::D9 (oS b r) k
def I5 (ops:Array Oper) (i j:Nat):Bool:=match ops[i]? with
 |some o=>o.after.toList.any λe=>Nat.beq e.on j&&Region.binds .any e
 |none=>false
def rch (ops:Array Oper):Nat->Nat->Nat->Bool
 |0,i,j=>I5 ops i j
 |n+1,i,j=>I5 ops i j||match ops[i]? with
  |some o=>o.after.toList.any λe=>Region.binds .any e&&rch ops n e.on j
  |none=>false
def XN:A->Option Nat
 |.own k _=>some k
 |.row k=>some k
 |.CJ _ k=>some k
 |.mp k=>some k
 |_=>none
def JV:Option Nat->Nat->Bool
 |some j,m=>Nat.beq j m
 |none,_=>false
def M8:List A->Nat->Bool
 |[],_=>false
 |x::r,m=>bif JV (XN x) m then true else M8 r m
def M9:OE->Nat->Bool
 |.var _ cs,m=>M8 cs m
 |.F3 v _ _,m=>Nat.beq v m
 |.Fo v _,m=>Nat.beq v m
 |_,_=>false
def Ef.MX (f:Ef) (m:Nat):Bool:=(match f.dst with
 |some (_,u)=>JV (XN u) m
 |none=>false)||(match f.key with
 |some (_,e)=>M9 e m
 |none=>false)
def J6 (ops:Array Oper) (f:Ef) (i:Nat) (g:Ef) (j:Nat):Bool :=
 (match g.dst with
  |some (t,_)=>(bif Eh f.us t then I5 ops i j else true)&&(match f.dst with
   |some (d,_)=>!Nat.beq d t
   |none=>true)
  |none=>true) &&
 (match f.dst with
  |some (d,_)=>bif Eh g.us d then I5 ops i j else true
  |none=>true) &&
 (match f.key,g.key with
  |some (k,_),some (k',_)=>match f.Nj,g.Nj with
   |true,_=>!Nat.beq k k'
   |false,true=>bif Nat.beq k k' then I5 ops i j else true
   |false,false=>bif Nat.beq k k' then I5 ops i j else true
  |_,_=>true) &&
 (match g.new with
  |some m=>(bif f.MX m then I5 ops i j else true)&&(match f.new with
   |some m'=>!Nat.beq m' m
   |none=>true)
  |none=>true) &&
 (match f.new with
  |some m=>!g.MX m
  |none=>true) &&
 (match g.key with
  |some (k',_)=>bif Eh f.rd k' then rch ops 40 i j else true
  |none=>true) &&
 (match f.key with
  |some (k',_)=>bif Eh g.rd k' then rch ops 40 i j else true
  |none=>true)
def UW (ops:Array Oper) (f:Ef) (i:Nat):List Ef->Bool
 |[]=>true
 |g::r=>J6 ops f i g r.length&&UW ops f i r
def okF (base:Nat) (f:Ef):Bool:=(match f.new with
 |some m=>Nat.ble base m
 |none=>true)&&(match f.key with
 |some (k,_)=>match f.Nj,f.new with
  |true,some m=>Nat.beq m k
  |true,none=>false
  |false,_=>true
 |none=>!f.new.isSome)
def okK (base:Nat) (f:Ef) (r:List Ef):Bool:=match f.key with
 |some (k,_)=>f.Nj||Nat.blt k base||r.any λg=>g.Nj&&match g.key with
  |some (k',_)=>Nat.beq k' k
  |none=>false
 |none=>true
def Mx (ops:Array Oper) (base:Nat):List Ef->Bool
 |[]=>true
 |f::r=>UW ops f r.length r&&okF base f&&okK base f r&&Mx ops base r
section
variable {ops:Array Oper}{f g:Ef}{i j base:Nat}{t d k k' m m':Nat}{y z:A}{e e':OE}
theorem a5F (h:J6 ops f i g j=true) (hg:g.dst=some (t,y)) (ht:Eh f.us t=true):I5 ops i j=true:=by
 simp only [J6,hg,ht,cond_true,xB] at h;exact h.1.1.1.1.1.1.1
theorem a5K (h:J6 ops f i g j=true) (hg:g.dst=some (t,y)) (hf:f.dst=some (d,z)):Nat.beq d t=false:=by
 simp only [J6,hg,hf,xB,yN] at h;exact h.1.1.1.1.1.1.2
theorem a5L (h:J6 ops f i g j=true) (hf:f.dst=some (d,z)) (hg:Eh g.us d=true):I5 ops i j=true:=by
 simp only [J6,hf,hg,cond_true,xB] at h;exact h.1.1.1.1.1.2
theorem Xw (h:J6 ops f i g j=true) (hf:f.key=some (k,e)) (hM:f.Nj=true) (hg:g.key=some (k',e')):Nat.beq k k'=false:=by
 simp only [J6,hf,hg,hM,xB,yN] at h;exact h.1.1.1.1.2
theorem Xx (h:J6 ops f i g j=true) (hf:f.key=some (k,e)) (hM:f.Nj=false) (hg:g.key=some (k,e')):I5 ops i j=true:=by
 simp only [J6,hf,hg,hM,xB] at h;have h3:=h.1.1.1.1.2;cases hG:g.Nj<;>simpa [hG] using h3
theorem a5I (h:J6 ops f i g j=true) (hg:g.new=some m) (hf:f.MX m=true):I5 ops i j=true:=by
 simp only [J6,hg,hf,cond_true,xB] at h;exact h.1.1.1.2.1
theorem uY (h:J6 ops f i g j=true) (hg:g.new=some m) (hf:f.new=some m'):Nat.beq m' m=false:=by
 simp only [J6,hg,hf,xB,yN] at h;exact h.1.1.1.2.2
theorem a5H (h:J6 ops f i g j=true) (hf:f.new=some m):g.MX m=false:=by
 simp only [J6,hf,xB,yN] at h;exact h.1.1.2
theorem a5G (h:J6 ops f i g j=true) (hf:Eh f.rd k=true) (hg:g.key=some (k,e)):rch ops 40 i j=true:=by
 simp only [J6,hf,hg,cond_true,xB] at h;exact h.1.2
theorem a5J (h:J6 ops f i g j=true) (hg:Eh g.rd k=true) (hf:f.key=some (k,e)):rch ops 40 i j=true:=by
 simp only [J6,hf,hg,cond_true,xB] at h;exact h.2
theorem OG {p:Nat->Bool}(hc:∀ i j,p i=true->I5 ops i j=true->p j=true):∀ (n i:Nat),p i=true->rch ops n i j=true->p j=true
 |0,i,hi,h=>hc i j hi h
 |n+1,i,hi,h=>by
  simp only [rch,yu] at h;rcases h with h|h
  ·exact hc i j hi h
  ·cases ho:ops[i]? with
   |none=>rw [ho] at h;cases h
   |some o =>
    rw [ho] at h;obtain⟨e,he,h2⟩:=BQ.1 h;rw [xB] at h2;refine OG hc n e.on (hc i e.on hi ?_) h2.2;simp only [I5,ho];exact BQ.2 ⟨e,he,by simp [h2.1]⟩
theorem a1u {p:Nat->Bool}(hc:∀ i j,p i=true->I5 ops i j=true->p j=true) (hd:∀ j,I5 ops i j=true->p j=true):∀ (n:Nat),rch ops n i j=true->p j=true
 |0,h=>hd j h
 |n+1,h=>by
  simp only [rch,yu] at h;rcases h with h|h
  ·exact hd j h
  ·cases ho:ops[i]? with
   |none=>rw [ho] at h;cases h
   |some o =>
    rw [ho] at h;obtain⟨e,he,h2⟩:=BQ.1 h;rw [xB] at h2;refine OG hc n e.on (hd e.on ?_) h2.2;simp only [I5,ho];exact BQ.2 ⟨e,he,by simp [h2.1]⟩
theorem OS:∀ {q r:List Ef},UW ops f i (q++g::r)=true->J6 ops f i g r.length=true
 |[],r,h=>by simp only [xP,UW,xB] at h;exact h.1
 |x::q,r,h=>by simp only [xX,UW,xB] at h;exact OS h.2
theorem ee:∀ {pre r:List Ef},Mx ops base (pre++f::r)=true->UW ops f r.length r=true/\okF base f=true/\okK base f r=true/\Mx ops base r=true
 |[],r,h=>by simp only [xP,Mx,xB] at h;exact⟨h.1.1.1,h.1.1.2,h.1.2,h.2⟩
 |x::pre,r,h=>by simp only [xX,Mx,xB] at h;exact ee h.2
theorem eM {pre q r:List Ef}(h:Mx ops base (pre++g::(q++f::r))=true):J6 ops g (q++f::r).length f r.length=true:=OS (ee h).1
theorem OT (h:okF base f=true) (hn:f.new=some m):base<=m:=by
 simp only [okF,hn,xB] at h;exact zY h.1
theorem uZ (h:okF base f=true) (hk:f.key=some (k,e)) (hM:f.Nj=true):f.new=some k:=by
 simp only [okF,hk,hM,xB] at h;cases hn:f.new with
 |none=>simp [hn] at h
 |some m=>rw [hn] at h;have:=am h.2;rw [this]
end
def CT:Nat->Bool:=λ_=>true
theorem vm {ops:Array Oper}{b:LO}{p:Nat->Bool}{base:Nat}{f:Ef}{r:List Ef}{t:Nat}(hp:p r.length=false) (hd:∀ j,I5 ops r.length j=true->p j=true) (hc:∀ i j,p i=true->I5 ops i j=true->p j=true) (ht:Eh f.us t=true) :
 ∀ {pre:List Ef},Mx ops base (pre++f::r)=true->BF (aR p b (pre++f::r)) t=BF (aR CT b r) t
 |[],ho=>by
  have hf:=(ee ho).1;have e0:aR p b (f::r)=aR p b r:=by
   simp only [aR,hp,cond_false];split<;>rfl
  rw [xP,e0];clear ho e0;have key:∀ q,UW ops f r.length q=true->BF (aR p b q) t=BF (aR CT b q) t:=by
   intro q
   induction q with
   |nil=>intro _;rfl
   |cons g q ih =>
    intro ho;simp only [UW,xB] at ho;obtain⟨h1,h4⟩:=ho;have ih:=ih h4;simp only [aR];split
    ·rename_i y hy;obtain⟨t',u⟩:=y;simp only [CT,cond_true];cases hb:Nat.beq t' t with
     |true =>
      obtain rfl:=am hb;rw [hd _ (a5F h1 hy ht),cond_true];simp [BF]
     |false =>
      cases hq:p q.length with
      |true=>simp only [cond_true,BF,hb,cond_false];exact ih
      |false=>simp only [cond_false,BF,hb];exact ih
    ·exact ih
  exact key r hf
 |g::pre,ho=>by
  have HV:=eM (pre:=[]) (q:=pre) ho;have ih:=vm (b:=b) hp hd hc ht (ee (pre:=[]) ho).2.2.2;simp only [xX,aR];split
  ·rename_i y hy;obtain⟨t',u⟩:=y;cases hq:p (pre++f::r).length with
   |false=>rw [cond_false];exact ih
   |true =>
    rw [cond_true];cases hb:Nat.beq t' t with
    |false=>simp only [BF,hb,cond_false];exact ih
    |true =>
     obtain rfl:=am hb;have:=hc _ _ hq (a5L HV hy ht);rw [hp] at this;cases this
  ·exact ih
def one (p:Nat->Bool) (i:Nat):Nat->Bool:=λj=>bif Nat.beq j i then true else p j
theorem QJ (p:Nat->Bool) (i:Nat):one p i i=true:=by simp [one]
theorem lj (p:Nat->Bool) {i j:Nat}(h:j≠i):one p i j=p j:=by
 unfold one;cases hb:Nat.beq j i with
 |true=>exact absurd (am hb) h
 |false=>rfl
theorem a4g {b:LO}{p:Nat->Bool}{i:Nat}:∀ {r:List Ef},r.length<=i->aR (one p i) b r=aR p b r
 |[],_=>rfl
 |g::r,h=>by
  simp only [aw] at h;have ih:=a4g (b:=b) (p:=p) (i:=i) (r:=r) xE;simp only [aR,ih,lj p (show r.length≠i by omega)]
theorem VX {b:Nat->Option OE}{p:Nat->Bool}{i k:Nat}:∀ {r:List Ef},r.length<=i->tR (one p i) b k r=tR p b k r
 |[],_=>rfl
 |g::r,h=>by
  simp only [aw] at h;have ih:=VX (b:=b) (p:=p) (i:=i) (k:=k) (r:=r) xE;simp only [tR,ih,lj p (show r.length≠i by omega)]
theorem wx {ops:Array Oper}{b:LO}{p:Nat->Bool}{base:Nat}{f:Ef}{r:List Ef}{t:Nat}{y:A}(hp:p r.length=false) :
 ∀ {pre:List Ef},Mx ops base (pre++f::r)=true->BF (aR (one p r.length) b (pre++f::r)) t=some y->BF (f.put (aR p b (pre++f::r))) t=some y
 |[],ho,hy=>by
  simp only [xP,aR,QJ,cond_true,a4g (aB r.length),hp,cond_false,Ef.put] at hy |-
  cases hf:f.dst with
  |none=>rw [hf] at hy;exact hy
  |some z=>rw [hf] at hy;exact hy
 |g::pre,ho,hy=>by
  have HV:=eM (pre:=[]) (q:=pre) ho;have h3:=(ee (pre:=[]) ho).2.2.2;have D5:(pre++f::r).length≠r.length:=by simp;omega
  have ih:=λhy=>wx (b:=b) (t:=t) (y:=y) hp h3 hy;simp only [xX,aR,lj p D5] at hy |-
  cases hz:g.dst with
  |none=>simp only [hz] at hy |-;exact ih hy
  |some z =>
   obtain⟨t',u'⟩:=z;simp only [hz] at hy |-;cases hq:p (pre++f::r).length with
   |false=>rw [hq,cond_false] at hy;rw [cond_false];exact ih hy
   |true =>
    rw [hq,cond_true] at hy;rw [cond_true];simp only [Ef.put] at ih |-
    cases hf:f.dst with
    |none =>
     simp only [hf,BF] at hy ih |-
     cases hb:Nat.beq t' t with
     |true=>simpa [hb] using hy
     |false=>simp only [hb,cond_false] at hy |-;exact ih hy
    |some z =>
     obtain⟨d,u⟩:=z;have hdt:=a5K HV hf hz;simp only [hf,BF] at hy ih |-;cases hb:Nat.beq t' t with
     |true =>
      obtain rfl:=am hb;have:Nat.beq d t'=false:=by
       cases hc:Nat.beq d t' with
       |true=>have:=am hc;subst this;simp at hdt
       |false=>rfl
      simp only [hb,cond_true,this,cond_false] at hy |-
      exact hy
     |false =>
      simp only [hb,cond_false] at hy |-
      exact ih hy
theorem PX {b:Nat->Option OE}{p:Nat->Bool}{f:Ef}{r:List Ef}{k:Nat}(hf:f.key=none):∀ {pre:List Ef},tR (one p r.length) b k (pre++f::r)=tR p b k (pre++f::r)
 |[]=>by simp only [xP,tR,hf,VX (aB r.length)]
 |g::pre=>by
  have D5:(pre++f::r).length≠r.length:=by simp;omega
  simp only [xX,tR,lj p D5,PX hf (pre:=pre)]
theorem oQ {ops:Array Oper}{f g:Ef}{i j k:Nat}{e e':OE}(h:J6 ops g i f j=true) (hg:g.key=some (k,e')) (hf:f.key=some (k,e)):I5 ops i j=true:=by
 cases hM:g.Nj with
 |true=>have:=Xw h hg hM hf;simp at this
 |false=>exact Xx h hg hM hf
theorem Og {ops:Array Oper}{b:Nat->Option OE}{p:Nat->Bool}{base:Nat}{f:Ef}{r:List Ef}{k:Nat}{e:OE}(hf:f.key=some (k,e)) (hp:p r.length=false) (hc:∀ i j,p i=true->I5 ops i j=true->p j=true) {k':Nat} :
 ∀ {pre:List Ef},Mx ops base (pre++f::r)=true->tR (one p r.length) b k' (pre++f::r)=bif Nat.beq k k' then some e else tR p b k' (pre++f::r)
 |[],ho=>by
  simp only [xP,tR,hf,QJ,xQ,VX (aB r.length),hp,A5,cond_false]
 |g::pre,ho=>by
  have HV:=eM (pre:=[]) (q:=pre) ho;have h3:=(ee (pre:=[]) ho).2.2.2;have D5:(pre++f::r).length≠r.length:=by simp;omega
  have ih:=Og (b:=b) hf hp hc (k':=k') h3;simp only [xX,tR,lj p D5];split
  ·rename_i kg eg hg;cases hq:(p (pre++f::r).length&&Nat.beq kg k') with
   |false=>simp only [cond_false];exact ih
   |true =>
    simp only [cond_true];rw [xB] at hq;cases hb:Nat.beq k k' with
    |false=>rfl
    |true =>
     exfalso;obtain rfl:=am hb;exact m167
  ·exact ih
theorem a2e {o:LQ}{e:OE}(h:BH o k=some e):(k,e)∈o:=by
 induction o with
 |nil=>cases h
 |cons y r ih =>
  obtain⟨i,u⟩:=y;simp only [BH] at h;cases hb:Nat.beq i k with
  |true=>obtain rfl:=am hb;simp only [hb,cond_true,au] at h;subst h;exact aC ..
  |false=>simp only [hb,cond_false] at h;exact aE _ (ih h)
def L5 (o:LQ):Prop:=(o.map (·.1)).Nodup
theorem Y7 {o:LQ}(hn:L5 o) {k:Nat}{e:OE}(h:(k,e)∈o):BH o k=some e:=by
 induction o with
 |nil=>cases h
 |cons y r ih =>
  obtain⟨i,u⟩:=y;simp only [L5,yy,zy] at hn;simp only [BH];cases h with
  |head=>simp
  |tail _ h =>
   have:i≠k:=λe'=>hn.1 (y'.2 ⟨_,h,e'.symm⟩);cases hb:Nat.beq i k with
   |true=>exact absurd (am hb) this
   |false=>exact ih hn.2 h
theorem tD {o:LQ}{y:Nat×OE}(h:y∈D9 o k):y∈o:=by
 induction o with
 |nil=>exact h
 |cons z r ih =>
  obtain⟨i,u⟩:=z;simp only [D9] at h;cases hb:Nat.beq i k with
  |true=>simp only [hb,cond_true] at h;exact aE _ h
  |false =>
   simp only [hb,cond_false] at h;cases h with
   |head=>exact aC ..
   |tail _ h=>exact aE _ (ih h)
theorem Zg {o:LQ}(hn:L5 o):L5 (D9 o k)/\∀ e,(k,e) ∉ D9 o k:=by
 induction o with
 |nil=>exact⟨hn,λe h=>by cases h⟩
 |cons z r ih =>
  obtain⟨i,u⟩:=z;simp only [L5,yy,zy] at hn;obtain⟨h1,h2⟩:=ih hn.2;simp only [D9];cases hb:Nat.beq i k with
  |true =>
   obtain rfl:=am hb;exact⟨hn.2,λe h=>hn.1 (y'.2 ⟨_,h,U⟩)⟩
  |false =>
   refine⟨?_,λe h=>?_⟩
   ·simp only [cond_false,L5,yy,zy];refine⟨λhm=>?_,h1⟩;obtain⟨y,hy,e⟩:=y'.1 hm;exact hn.1 (y'.2 ⟨y,tD hy,e⟩)
   ·simp only [cond_false] at h;cases h with
    |head=>simp at hb
    |tail _ h=>exact h2 e h
theorem pq {o:LQ}{k k':Nat}(hk:k≠k'):BH (D9 o k) k'=BH o k':=by
 induction o with
 |nil=>rfl
 |cons z r ih =>
  obtain⟨i,u⟩:=z;simp only [D9,BH];cases hb:Nat.beq i k with
  |true =>
   obtain rfl:=am hb;cases hc:Nat.beq i k' with
   |true=>exact absurd (am hc) hk
   |false=>rfl
  |false =>
   simp only [cond_false,BH];cases Nat.beq i k' with
   |true=>rfl
   |false=>exact ih
theorem VA:∀ {o' o:LQ},L5 o'->(∀ k e,(k,e)∈o'->BH o k=some e)->I7 o' o
 |[],_,_,_=>trivial
 |(k,e)::r,o,hn,h=>by
  simp only [L5,yy,zy] at hn;refine⟨h k e (aC ..),VA hn.2 λk' e' hm=>?_⟩;rw [pq (λhe=>hn.1 (y'.2 ⟨_,hm,he.symm⟩))];exact h k' e' (aE _ hm)
theorem QO {ops:Array Oper}{base:Nat}{b:LQ}(hb:L5 b) (hk:∀ k e,(k,e)∈b->k<base):∀ {es:List Ef},Mx ops base es=true->L5 (oS b es)/\∀ k,BH (oS b es) k=tR CT (BH b) k es/\((∃ e,(k,e)∈oS b es)->k<base\/∃ f∈es,∃ e,f.key=some (k,e))
 |[],_=>⟨hb,λk=>⟨U,λ⟨e,h⟩=>.inl (hk k e h)⟩⟩
 |f::r,ho=>by
  obtain⟨h1,h2,_,h3⟩:=ee (pre:=[]) ho;obtain⟨i1,i2⟩:=QO hb hk h3;have i3:∀ k,(∃ e,(k,e)∈oS b r)->k<base\/∃ f'∈f::r,∃ e,f'.key=some (k,e):=λk h=>by
   rcases(i2 k).2 h with h|⟨f',hf',h⟩
   ·exact .inl h
   ·exact .inr ⟨f',aE _ hf',h⟩
  cases hf:f.key with
  |none =>
   simp only [oS,hf,tR];exact⟨i1,λk=>⟨(i2 k).1,i3 k⟩⟩
  |some y =>
   obtain⟨k,e⟩:=y;cases hM:f.Nj with
   |true =>
    simp only [oS,hf,hM,tR];have Yy:∀ e',(k,e') ∉ oS b r:=λe' hm=>by
     rcases(i2 k).2 ⟨e',hm⟩ with h|⟨f',hf',e'',h⟩
     ·have:=OT h2 (uZ h2 hf hM);omega
     ·obtain⟨q,r',rfl⟩:=List.append_of_mem hf';have:=Xw (OS h1) hf hM h;simp at this
    refine⟨?_,λk'=>⟨?_,λ⟨e',hm⟩=>?_⟩⟩
    ·simp only [L5,yy,zy];exact⟨λhm=>by obtain⟨⟨_,e'⟩,hy,rfl⟩:=y'.1 hm;exact Yy e' hy,i1⟩
    ·simp only [BH,CT,xQ];rw [(i2 k').1];try rfl
    ·cases hm with
     |head=>exact .inr ⟨f,aC ..,e,hf⟩
     |tail _ hm=>exact i3 k' ⟨e',hm⟩
   |false =>
    simp only [oS,hf,hM,tR];obtain⟨d1,d2⟩:=Zg (k:=k) i1;refine⟨?_,λk'=>⟨?_,λ⟨e',hm⟩=>?_⟩⟩
    ·exact m135
    ·simp only [BH,CT,xQ];cases hb:Nat.beq k k' with
     |true=>rfl
     |false =>
      simp only [cond_false];rw [pq (λhh=>by subst hh;simp at hb),(i2 k').1];try rfl
    ·cases hm with
     |head=>exact .inr ⟨f,aC ..,e,hf⟩
     |tail _ hm=>exact i3 k' ⟨e',tD hm⟩
theorem a2_ {x:A}{m:Nat}(h:JV (XN x) m=true):kA x=m+1:=by
 cases x<;>simp only [XN,JV,kA] at h |-<;>first|(rw [am h])|cases h
theorem Rf {x:A}{m:Nat}(h:kA x=m+1):JV (XN x) m=true:=by
 cases x with
 |own i f=>simp only [kA] at h;obtain rfl:i=m:=xE;simp [XN,JV]
 |row i=>simp only [kA] at h;obtain rfl:i=m:=xE;simp [XN,JV]
 |CJ l i=>simp only [kA] at h;obtain rfl:i=m:=xE;simp [XN,JV]
 |mp i=>simp only [kA] at h;obtain rfl:i=m:=xE;simp [XN,JV]
 |d _=>simp [kA] at h
 |any=>simp [kA] at h
theorem XY {l:List A}{m:Nat}{x:A}(h:M8 l m=false) (hx:x∈l):kA x≠m+1:=λhe=>by
 induction l with
 |nil=>cases hx
 |cons y r ih =>
  simp only [M8] at h;cases hm:JV (XN y) m with
  |true=>rw [hm] at h;cases h
  |false =>
   rw [hm,cond_false] at h;cases hx with
   |head=>rw [Rf he] at hm;cases hm
   |tail _ hx=>exact ih h hx
theorem a2a {e:OE}(h:kE e<=k):M9 e k=false:=by
 cases e with
 |var t cs =>
  simp only [kE] at h;simp only [M9]
  induction cs with
  |nil=>rfl
  |cons x r ih =>
   simp only [Ho] at h;have a1:=KM (kA x) (Ho r);have a2:=M6 (kA x) (Ho r);simp only [M8];cases hm:JV (XN x) k with
   |true=>have:=a2_ hm;omega
   |false=>exact ih xE
 |F3 v t d =>
  exact m139
 |Fo v b =>
  exact m139
 |_=>rfl
theorem ud {o:LQ}{e:OE}(h:(k,e)∈o):k<Ep o/\kE e<=Ep o:=by
 induction o with
 |nil=>cases h
 |cons y r ih =>
  obtain⟨i,u⟩:=y;simp only [Ep];have a1:=KM (mx (i+1) (kE u)) (Ep r);have a2:=M6 (mx (i+1) (kE u)) (Ep r);have a3:=KM (i+1) (kE u);have a4:=M6 (i+1) (kE u);cases h with
  |head=>exact⟨by omega,by omega⟩
  |tail _ h=>have:=ih h;exact⟨by omega,by omega⟩
def Ac.ofk (ρ Ex:Ac) (k:Nat):Prop:=∀ i,i≠k->ρ.b i=Ex.b i/\ρ.a i=Ex.a i/\ρ.c i=Ex.c i/\ρ.n i=Ex.n i
theorem Ac.XA (ρ:Ac) (k b:Nat):ρ.ofk (ρ.Hs k b) k:=λi hi=>⟨by simp [Ac.Hs,hi],U,U,U⟩
theorem Ac.GB (ρ:Ac) (k:Nat) (a:OA) (c n:Nat):ρ.ofk (ρ.yI k a c n) k:=λi hi=>by simp [Ac.yI,hi]
def FrA (k:Nat) (a:LO):Prop:=∀ t y,BF a t=some y->kA y≠k+1
def FrO (k:Nat) (o:LQ):Prop:=∀ i e,(i,e)∈o->i≠k/\M9 e k=false
theorem FrO.del {k k':Nat}{o:LQ}(h:FrO k o):FrO k (D9 o k'):=λi e hm=>h i e (tD hm)
section
variable {P:Program} [Tb P] {ρ Ex:Ac}{h:Part}{k:Nat}{a:LO}{o:LQ}{S:AH}{L:LE}
theorem zN.fresh (w:ρ.ofk Ex k) {x:A}{v:Value}(hk:kA x≠k+1) (q:zN ρ h x v):zN Ex h x v:=by
 cases x with
 |d d=>exact q
 |own i off =>
  exact m149
 |row i =>
  exact m124
 |CJ l i =>
  exact m124
 |mp i =>
  exact m149
 |any=>trivial
theorem yZ.fresh (w:ρ.ofk Ex k):∀ {l:List A}{cs:LV},(∀ x∈l,kA x≠k+1)->yZ ρ h l cs->yZ Ex h l cs
 |[],_,_,q=>q
 |x::r,cs,hn,⟨v,t,e,h1,h2,h3⟩=>⟨v,t,e,h1,h2.fresh w (hn x (aC ..)),yZ.fresh w (λy hy=>hn y (aE _ hy)) h3⟩
theorem Gl.fresh (w:ρ.ofk Ex k) {i:Nat}{e:OE}{x:Br}(hi:i≠k) (hn:M9 e k=false) (q:Gl ρ h i e x):Gl Ex h i e x:=by
 obtain⟨e1,e2,e3,e4⟩:=w i hi;cases e with
 |var t cs=>obtain⟨vs,rfl,hv⟩:=q;exact⟨vs,by rw [e1],hv.fresh w (λx hx=>XY hn hx)⟩
 |B1 t d'=>obtain⟨vs,rfl,hv⟩:=q;exact⟨vs,by rw [e1],hv⟩
 |row t d'=>obtain⟨xs,sz,rfl,hv⟩:=q;exact⟨xs,sz,by rw [e2,e3,e4],by rw [<- e4];exact hv⟩
 |F3 v t d' =>
  obtain⟨_,g2,g3,g4⟩:=w v (λe=>by subst e;simp [M9] at hn);obtain⟨xs,sz,rfl,hv⟩:=q;exact⟨xs,sz,by rw [g2,g3,g4],by rw [<- g4];exact hv⟩
 |Fo v b =>
  obtain⟨g1,_⟩:=w v (λe=>by subst e;simp [M9] at hn);exact⟨by rw [<- g1];exact q.1,q.2⟩
 |set es=>obtain⟨arr,cl,rfl,hv⟩:=q;exact⟨arr,cl,by rw [e1],hv⟩
theorem Bi.fresh (w:ρ.ofk Ex k):∀ {o:LQ}{L:LE},FrO k o->Bi ρ h o L->Bi Ex h o L
 |[],_,_,q=>q
 |(i,e)::r,L,hn,⟨x,L',e1,h1,h2⟩=>by
  obtain⟨n1,n2⟩:=hn i e (aC ..);exact⟨x,L',e1,h1.fresh w n1 n2,Bi.fresh w (λi' e' hm=>hn i' e' (aE _ hm)) h2⟩
theorem Cz.fresh (w:ρ.ofk Ex k) (hA:FrA k a) (hO:FrO k o) (c:Cz P ρ h a o S L):Cz P Ex h a o S L :=
 ⟨c.t,λt x hx=>by obtain⟨v,h1,h2⟩:=c.s t x hx;exact⟨v,h1,h2.fresh w (hA t x hx)⟩,c.o.fresh w hO⟩
end
def L8 (ops:Array Oper):Nat->LR->Bool
 |_,[]=>true
 |i,o::r=>(o.after.toList.all λe=>!Region.binds .any e||Nat.blt e.on i)&&L8 ops (i+1) r
theorem u_ {ops:Array Oper}:∀ {l:LR}{i:Nat},L8 ops i l=true->∀ {j:Nat}{o:Oper},l[j]?=some o->∀ e∈o.after,Region.binds .any e=true->e.on<i+j
 |[],i,_,j,o,h,_,_,_=>by simp at h
 |p::r,i,ht,j,o,h,e,he,hb=>by
  simp only [L8,xB] at ht;cases j with
  |zero =>
   simp only [ze,au] at h;subst h;have:=xH.1 ht.1 e (by simpa using he);simp only [hb,ym,BN] at this;exact m109
  |succ j =>
   simp only [Ab] at h;have:=u_ ht.2 h e he hb;omega
def G6 (P:Program) [Tb P] (F:Fd) (ops:Array Oper) (x:Nat->y_) (b:LO) (ob:LQ) (r:List Ef) (f:Ef) (op:Oper):Prop :=
 ∃ Au,Aa f.us (aR CT b r)=some Au/\match f.key with
 |none=>match f.rd with
  |[]=>∀ (n:y_) A' O',Ms Au A'->n (f.put A') O'->Al P F ops n x [op] A' O'
  |k::ks=>∀ (n:y_) A' O',Ms Au A'->(∀ q,Eh (k::ks) q=true->BH O' q=BH (oS ob r) q)->n (f.put A') O'->Al P F ops n x [op] A' O'
 |some (k,e)=>match f.Nj with
  |true=>∀ (n:y_) A' O',Ms Au A'->FrA k A'->FrO k O'->n (f.put A') ((k,e)::O')->Al P F ops n x [op] A' O'
  |false=>∃ e0,BH (oS ob r) k=some e0/\∀ (n:y_) A' O',Ms Au A'->BH O' k=some e0->(∀ m,f.new=some m->FrA m A'/\FrO m O')->n (f.put A') ((k,e)::D9 O' k)->Al P F ops n x [op] A' O'
def a0m (P:Program) [Tb P] (F:Fd) (ops:Array Oper) (x:Nat->y_) (b:LO) (ob:LQ):List Ef->Prop
 |[]=>True
 |f::r=>(∃ op,ops[r.length]?=some op/\G6 P F ops x b ob r f op)/\a0m P F ops x b ob r
theorem s_ {f:Fr}{ops:Array Oper}{n n':yF}{x:Nat->yF}{i:Nat}{o:Oper}{a:Act}{w:World}{K:Act->World->Prop}(hi:ops[i]?=some o) (hk:wpList f.P ops (f.Q n' x) [o] a w) (fin:∀ a w,f.Q n' x .normal a w->K a w):wpOp f.P ops (f.Q n x) i K a w:=by
 exact m39
def cnt (l:Array Bool):Nat:=(l.toList.filter (!·)).length
theorem a30 {l:Array Bool}{i:Nat}(h:l.getD i true=false):cnt (l.setIfInBounds i true)+1=cnt l:=by
 obtain⟨l⟩:=l;simp only [cnt,List.setIfInBounds_toArray];have h':l[i]?=some false:=by
  cases hh:l[i]? with
  |none=>simp [hh] at h
  |some b=>simp [hh] at h;rw [h]
 clear h
 induction l generalizing i with
 |nil=>simp at h'
 |cons b r ih =>
  cases i with
  |zero=>simp only [ze,au] at h';subst h';simp
  |succ i =>
   simp only [Ab] at h';have:=ih h';cases b<;>simp at this |-<;>omega
theorem ZD {l:Array Bool}(h:cnt l=0) (i:Nat):l.getD i true=true:=by
 obtain⟨l⟩:=l;simp only [cnt] at h;have h2:=xI h;rw [List.filter_eq_nil_iff] at h2;cases hh:l[i]? with
 |none=>simp [hh]
 |some b=>have:=h2 b (G_ hh);simp [hh];simpa using this
def HP (l:Array Bool):Nat->Bool:=λi=>l.getD i false
section
variable {P:Program} [Tb P] {F:Fd}{n:y_}{x:Nat->y_}{a:LO}{o:LQ}{l:LR}{es:List Ef}{base:Nat}
theorem QN {ops:Array Oper}:∀ {es:List Ef},a0m P F ops x a o es->∀ {i:Nat},i<es.length->∃ pre f r,es=pre++f::r/\r.length=i/\∃ op,ops[i]?=some op/\G6 P F ops x a o r f op
 |[],_,i,hi=>by simp at hi
 |f::r,ho,i,hi=>by
  rcases A9 i r.length with h|h
  ·obtain⟨pre,f',r',e1,e2,h3⟩:=QN ho.2 h;exact⟨f::pre,f',r',by rw [e1];rfl,e2,h3⟩
  ·have:r.length=i:=by simp at hi;omega
   subst this;exact⟨[],f,r,U,U,ho.1⟩
end
theorem suf {α:Type _}{pre M0:List α}{f f':α}{r r':List α}(h:pre++f::r=M0++f'::r') (hl:r.length<r'.length):∃ q,r'=q++f::r:=by
 have h1:(f::r) <:+ (pre++f::r):=⟨pre,U⟩;have h2:r' <:+ (pre++f::r):=⟨M0++[f'],by rw [h];simp⟩;obtain⟨q,hq⟩:=List.suffix_of_suffix_length_le h1 h2 (by simp;omega);exact⟨q,hq.symm⟩
theorem a4h {p:Nat->Bool}{b:LO}:∀ {es:List Ef}{t:Nat}{y:A},BF (aR p b es) t=some y->BF b t=some y\/∃ pre f r t',es=pre++f::r/\f.dst=some (t',y)/\p r.length=true
 |[],t,y,h=>.inl h
 |f::r,t,y,h=>by
  have rest:BF (aR p b r) t=some y->BF b t=some y\/∃ pre f' r' t',f::r=pre++f'::r'/\f'.dst=some (t',y)/\p r'.length=true:=λh=>by
   rcases a4h h with h|⟨pre,f',r',t',e1,e2⟩
   ·exact .inl h
   ·exact .inr ⟨f::pre,f',r',t',by rw [e1];rfl,e2⟩
  simp only [aR] at h;split at h
  ·rename_i z hz;obtain⟨d,u⟩:=z;cases hp:p r.length with
   |false=>rw [hp,cond_false] at h;exact rest h
   |true =>
    rw [hp,cond_true] at h;simp only [BF] at h;cases hb:Nat.beq d t with
    |true=>simp only [hb,cond_true,au] at h;subst h;exact .inr ⟨[],f,r,d,U,hz,hp⟩
    |false=>simp only [hb,cond_false] at h;exact rest h
  ·exact rest h
theorem a3u {b:Nat->Option OE}{p:Nat->Bool}{k:Nat}{e:OE}:∀ {es:List Ef},tR p b k es=some e->b k=some e\/∃ pre f r,es=pre++f::r/\f.key=some (k,e)/\p r.length=true
 |[],h=>.inl h
 |f::r,h=>by
  have rest:tR p b k r=some e->b k=some e\/∃ pre f' r',f::r=pre++f'::r'/\f'.key=some (k,e)/\p r'.length=true:=λh=>by
   rcases a3u h with h|⟨pre,f',r',e1,e2⟩
   ·exact .inl h
   ·exact .inr ⟨f::pre,f',r',by rw [e1];rfl,e2⟩
  simp only [tR] at h;split at h
  ·rename_i k' e' hk;cases hq:(p r.length&&Nat.beq k' k) with
   |true =>
    rw [hq,cond_true] at h;cases h;rw [xB] at hq;obtain rfl:=am hq.2;exact .inr ⟨[],f,r,U,hk,hq.1⟩
   |false=>rw [hq,cond_false] at h;exact rest h
  ·exact rest h
theorem OU {ops:Array Oper}{p:Nat->Bool}{base m:Nat}{f f':Ef}{r r' pre M0:List Ef}(GJ:Mx ops base (pre++f::r)=true) (hf:f.new=some m) (hp:p r.length=false) (hc:∀ i j,p i=true->I5 ops i j=true->p j=true)
 (hes:pre++f::r=M0++f'::r') (V9:p r'.length=true):f'.MX m=false/\f'.new≠some m:=by
 rcases Nat.lt_trichotomy r.length r'.length with h|h|h
 ·obtain⟨q,rfl⟩:=suf hes h;rw [hes] at GJ;have pr:=eM GJ;refine⟨?_,λhn=>by have:=uY pr hf hn;simp at this⟩;cases hs:f'.MX m with
  |false=>rfl
  |true=>have:=hc _ _ V9 (a5I pr hf hs);rw [hp] at this;cases this
 ·rw [h,V9] at hp;cases hp
 ·obtain⟨q,rfl⟩:=suf hes.symm h;have pr:=eM GJ;exact⟨a5H pr hf,λhn=>by have:=uY pr hn hf;simp at this⟩
theorem a5S {ops:Array Oper}{p:Nat->Bool}{base m i:Nat}{f f':Ef}{r r' pre M0:List Ef}{e':OE}(GJ:Mx ops base (pre++f::r)=true) (hf:f.new=some m) (hp:p r.length=false) (hc:∀ i j,p i=true->I5 ops i j=true->p j=true)
 (hes:pre++f::r=M0++f'::r') (hk:f'.key=some (i,e')) (V9:p r'.length=true):i≠m:=λhim=>by
 subst him;have hn:=(OU GJ hf hp hc hes V9).2;have a6P:=GJ;rw [hes] at a6P;obtain⟨_,h2,h3,h4⟩:=ee a6P;have hbm:=OT (ee GJ).2.1 hf;cases hM:f'.Nj with
 |true=>exact hn (uZ h2 hk hM)
 |false =>
  simp only [okK,hk,hM,BN,yu] at h3;rcases h3 with h3|h3
  ·have:i<base:=by simpa using h3
   omega
  ·obtain⟨g,hg,h5⟩:=BQ.1 h3;rw [xB] at h5;obtain⟨q2,r2,rfl⟩:=List.append_of_mem hg;cases hgk:g.key with
   |none=>rw [hgk] at h5;simp at h5
   |some y =>
    obtain⟨k',e2⟩:=y;rw [hgk] at h5;obtain rfl:=am h5.2;have hgn:=uZ (ee h4).2.1 hgk h5.1;have a6k:pre++f::r=(M0++f'::q2)++g::r2:=by rw [hes];simp
    rcases Nat.lt_trichotomy r.length r2.length with h|h|h
    ·obtain⟨q,rfl⟩:=suf a6k h;rw [a6k] at GJ;have:=uY (eM GJ) hf hgn;simp at this
    ·have:=hc _ _ V9 (oQ (eM a6P) hk hgk);rw [<- h,hp] at this;cases this
    ·obtain⟨q,rfl⟩:=suf a6k.symm h;have:=uY (eM GJ) hgn hf;simp at this
theorem ue {ops:Array Oper}{b:Nat->Option OE}{p:Nat->Bool}{base:Nat}{f:Ef}{r:List Ef}{k:Nat}{e:OE}(hf:f.key=some (k,e)) (hM:f.Nj=false) (hp:p r.length=false) (hd:∀ j,I5 ops r.length j=true->p j=true) (hc:∀ i j,p i=true->I5 ops i j=true->p j=true) :
 ∀ {pre:List Ef},Mx ops base (pre++f::r)=true->tR p b k (pre++f::r)=tR CT b k r
 |[],ho=>by
  have J_:=(ee ho).1;have e0:tR p b k (f::r)=tR p b k r:=by simp only [tR,hf,hp,A5,cond_false]
  rw [xP,e0];clear ho e0;have key:∀ q,UW ops f r.length q=true->tR p b k q=tR CT b k q:=by
   intro q
   induction q with
   |nil=>intro _;rfl
   |cons g q ih =>
    intro ho;simp only [UW,xB] at ho;have ih:=ih ho.2;simp only [tR];split
    ·rename_i k' e' hg;simp only [CT,xQ];cases hb:Nat.beq k' k with
     |false=>simp only [yA,cond_false];exact ih
     |true =>
      obtain rfl:=am hb;rw [hd _ (Xx ho.1 hf hM hg)];rfl
    ·exact ih
  exact key r J_
 |g::pre,ho=>by
  have HV:=eM (pre:=[]) (q:=pre) ho;have ih:=ue (b:=b) hf hM hp hd hc (ee (pre:=[]) ho).2.2.2;simp only [xX,tR];split
  ·rename_i k' e' hg;cases hq:(p (pre++f::r).length&&Nat.beq k' k) with
   |false=>rw [cond_false];exact ih
   |true =>
    exfalso;rw [xB] at hq;exact m167
  ·exact ih
theorem uz {ops:Array Oper}{b:Nat->Option OE}{p:Nat->Bool}{base:Nat}{f:Ef}{r:List Ef}{k:Nat}(hf:Eh f.rd k=true) (hp:p r.length=false) (hd:∀ j,I5 ops r.length j=true->p j=true) (hc:∀ i j,p i=true->I5 ops i j=true->p j=true) :
 ∀ {pre:List Ef},f.key=none->Mx ops base (pre++f::r)=true->tR p b k (pre++f::r)=tR CT b k r
 |[],hn,ho=>by
  have J_:=(ee ho).1;have e0:tR p b k (f::r)=tR p b k r:=by simp only [tR,hn]
  rw [xP,e0];clear ho e0;have key:∀ q,UW ops f r.length q=true->tR p b k q=tR CT b k q:=by
   intro q
   induction q with
   |nil=>intro _;rfl
   |cons g q ih =>
    intro ho;simp only [UW,xB] at ho;have ih:=ih ho.2;simp only [tR];split
    ·rename_i k' e' hg;simp only [CT,xQ];cases hb:Nat.beq k' k with
     |false=>simp only [yA,cond_false];exact ih
     |true =>
      obtain rfl:=am hb;rw [a1u hc hd _ (a5G ho.1 hf hg)];rfl
    ·exact ih
  exact key r J_
 |g::pre,hn,ho=>by
  have HV:=eM (pre:=[]) (q:=pre) ho;have ih:=uz (b:=b) hf hp hd hc hn (ee (pre:=[]) ho).2.2.2;simp only [xX,tR];split
  ·rename_i k' e' hg;cases hq:(p (pre++f::r).length&&Nat.beq k' k) with
   |false=>rw [cond_false];exact ih
   |true =>
    exfalso;rw [xB] at hq;obtain rfl:=am hq.2;have:=OG hc _ _ hq.1 (a5J HV hf hg);rw [hp] at this;cases this
  ·exact ih
theorem vr:∀ {us:List Nat}{B Au A':LO},Aa us B=some Au->(∀ t,Eh us t=true->BF A' t=BF B t)->Ms Au A'
 |[],B,Au,A',h,_=>by simp only [Aa,au] at h;subst h;exact trivial
 |t::us,B,Au,A',h,hl=>by
  simp only [Aa] at h;split at h
  ·rename_i v a1 hv h1;cases h;refine⟨(hl t (by simp [Eh])).trans hv,vr h1 λs hs=>hl s ?_⟩;simp only [Eh];cases Nat.beq t s with
   |true=>rfl
   |false=>exact hs
  ·cases h
theorem a0j {p:Nat->Bool}{b:LO}:∀ {es:List Ef},(∀ i,i<es.length->p i=true)->aR p b es=aR CT b es
 |[],_=>rfl
 |f::r,h=>by
  have ih:=a0j (b:=b) (p:=p) (es:=r) (λi hi=>h i (by simp;omega));simp only [aR,ih,h r.length (by simp),CT]
theorem VY {p:Nat->Bool}{b:Nat->Option OE}{k:Nat}:∀ {es:List Ef},(∀ i,i<es.length->p i=true)->tR p b k es=tR CT b k es
 |[],_=>rfl
 |f::r,h=>by
  have ih:=VY (b:=b) (k:=k) (p:=p) (es:=r) (λi hi=>h i (by simp;omega));simp only [tR,ih,h r.length (by simp),CT]
theorem a1J {l:Array Bool}{i:Nat}(hi:i<l.size):HP (l.setIfInBounds i true)=one (HP l) i:=by
 funext j
 unfold HP one;cases hb:Nat.beq j i with
 |true=>obtain rfl:=am hb;simp [hi]
 |false =>
  have:i≠j:=λe=>by subst e;simp at hb
  simp [Array.getElem?_setIfInBounds_ne this]
section
variable {P:Program} [Tb P] {F:Fd}{n:y_}{x:Nat->y_}{a:LO}{o:LQ}{l:LR}{es:List Ef}{base:Nat}
theorem a6C (hlen:es.length=l.length) (Np:L8 l.toArray 0 l=true) (GJ:Mx l.toArray base es=true) (hA:Gu a<=base) (hO:Ep o<=base) (U0:L5 o) (ob:a0m P F l.toArray x a o es) (k:n (aR CT a es) (oS o es)) :
 ∀ (fuel:Nat) (listed:Array Bool) (ac:Act) (w:World),cnt listed=fuel->listed.size=l.length->(∀ i j,HP listed i=true->I5 l.toArray i j=true->HP listed j=true) ->
 (∃ ρ h S L O',Sat (F.fr P).e (F.fr P).m S h L ac w/\Cz P ρ h (aR (HP listed) a es) O' S L/\L5 O'/\∀ k,BH O' k=tR (HP listed) (BH o) k es)->wpAny P .any l.toArray ((F.fr P).Q (up P n) (λi=>up P (x i))) fuel listed ac w:=by
 have hkb:∀ k e,(k,e)∈o->k<base:=λk e hm=>zi (ud hm).1 hO;have done:∀ (listed:Array Bool) (ac:Act) (w:World),listed.size=l.length->Region.ready .any l.toArray listed=[]->(∃ ρ h S L O',Sat (F.fr P).e (F.fr P).m S h L ac w/\Cz P ρ h (aR (HP listed) a es) O' S L/\L5 O'/\∀ k,BH O' k=tR (HP listed) (BH o) k es)->(F.fr P).Q (up P n) (λi=>up P (x i)) .normal ac w:=by
  rintro listed ac w CP Io ⟨ρ,h,S,L,O',s,cz,hn,ht⟩;have all:∀ i,i<l.length->HP listed i=true:=by
   intro i
   induction i using Nat.strongRecOn with
   |_ i ih =>
    intro hi;cases hq:HP listed i with
    |true=>rfl
    |false =>
     exfalso;have:i∈Region.ready .any l.toArray listed:=by
      rw [mem_ready];refine⟨?_,l[i],by simp [hi],λe he hb=>?_⟩
      ·unfold HP at hq;have:i<listed.size:=by omega
       simp [this] at hq |-;exact hq
      ·have:=u_ Np (j:=i) (o:=l[i]) (by simp [hi]) e he hb;exact ih e.on xE xE
     rw [Io] at this;cases this
  have a9E:∀ i,i<es.length->HP listed i=true:=λi hi=>all i xE;rw [a0j a9E] at cz;obtain⟨n1,n2⟩:=QO U0 hkb GJ;have hw:I7 (oS o es) O':=VA n1 λk e hm=>by
   rw [ht k,VY a9E,<- (n2 k).1];exact Y7 n1 hm
  obtain⟨L',Lr,p1,p2⟩:=hw.den cz.o;exact⟨S,h,L',s.with (p1.ok w s.ok),ρ,_,_,⟨cz.t,cz.s,p2⟩,k⟩
 intro fuel
 induction fuel with
 |zero =>
  intro listed ac w a8V CP Ia hinv;have Io:Region.ready .any l.toArray listed=[]:=by
   rw [List.eq_nil_iff_forall_not_mem];intro i hi;have:=(mem_ready.1 hi).1;rw [ZD a8V i] at this;cases this
  exact⟨Io,done listed ac w CP Io hinv⟩
 |succ fuel ih =>
  intro listed ac w a8V CP Ia hinv;refine⟨λIo=>done listed ac w CP Io hinv,λi hi=>?_⟩;obtain⟨hi0,op,hop,a8R⟩:=mem_ready.1 hi;have hiN:i<listed.size:=by
   rcases A9 i listed.size with h|h
   ·exact h
   ·simp [Dc h] at hi0
  have V7:HP listed i=false:=by unfold HP;simp [hiN] at hi0 |-;exact hi0
  have hda:∀ j,I5 l.toArray i j=true->HP listed j=true:=λj hj=>by
   unfold I5 at hj;rw [hop] at hj;obtain⟨e,he,h2⟩:=BQ.1 hj;rw [xB] at h2;have:=am h2.1;rw [<- this];exact a8R e (by simpa using he) h2.2
  obtain⟨pre,f,r,hes,hri,op',a8L,IV⟩:=QN ob (show i<es.length by omega);rw [hop] at a8L;cases a8L;subst hri;have a3T:HP (listed.setIfInBounds r.length true)=one (HP listed) r.length:=a1J hiN;have next:∀ ac w,(∃ ρ h S L O',Sat (F.fr P).e (F.fr P).m S h L ac w/\Cz P ρ h (aR (one (HP listed) r.length) a es) O' S L/\L5 O'/\∀ k,BH O' k=tR (one (HP listed) r.length) (BH o) k es)->wpAny P .any l.toArray ((F.fr P).Q (up P n) (λi=>up P (x i))) fuel (listed.setIfInBounds r.length true) ac w:=λac w hv=>by
   refine ih _ ac w (by have:=a30 hi0;omega) (by simp [CP]) ?_ (by rw [a3T];exact hv);rw [a3T];intro i' j Bx hj;by_cases hij:i'=r.length
   ·subst hij;have:=hda j hj;exact m179
   ·rw [lj _ hij] at Bx;have:=Ia i' j Bx hj;exact m179
  obtain⟨ρ,h,S,L,O',s,cz,hn,ht⟩:=hinv;obtain⟨Au,hAu,IV⟩:=IV;subst hes;have hwk:Ms Au (aR (HP listed) a (pre++f::r)):=vr hAu λt htu=>vm V7 hda Ia htu GJ;have fresh:∀ m,f.new=some m->FrA m (aR (HP listed) a (pre++f::r))/\FrO m O':=λm hm=>by
   have hbm:=OT (ee GJ).2.1 hm;refine⟨λt y hy he=>?_,λi e' a6g=>?_⟩
   ·rcases a4h hy with h1|⟨M0,f',r',t',e1,e2,e3⟩
    ·have:=sj h1;omega
    ·have hs:=(OU GJ hm V7 Ia e1 e3).1;simp only [Ef.MX,e2,LC] at hs;rw [Rf he] at hs;exact absurd hs.1 yD
   ·have h1:=Y7 hn a6g;rw [ht i] at h1;rcases a3u h1 with h3|⟨M0,f',r',e1,e2,e3⟩
    ·have:=ud (a2e h3);exact⟨by omega,a2a xE⟩
    ·have hs:=(OU GJ hm V7 Ia e1 e3).1;simp only [Ef.MX,e2,LC] at hs;exact⟨a5S GJ hm V7 Ia e1 e2 e3,hs.2⟩
  cases hk:f.key with
  |none =>
   have IV:Al P F l.toArray (λa' o'=>a'=f.put (aR (HP listed) a (pre++f::r))/\o'=O') x [op] (aR (HP listed) a (pre++f::r)) O':=by
    cases V6:f.rd with
    |nil=>simp only [hk,V6] at IV;exact IV _ _ _ hwk ⟨U,U⟩
    |cons k ks =>
     simp only [hk,V6] at IV;exact IV _ _ _ hwk (λq hq=>by rw [ht q,uz (by rw [V6];exact hq) V7 hda Ia hk GJ,<- ((QO U0 hkb (ee GJ).2.2.2).2 q).1]) ⟨U,U⟩
   refine s_ (n':=up P (λa' o'=>a'=f.put (aR (HP listed) a (pre++f::r))/\o'=O')) hop (IV.k ρ h S L cz ac w s) ?_;rintro ac w ⟨S',h',L',s',Ex,_,_,BG,rfl,rfl⟩;refine next ac w ⟨Ex,h',S',L',_,s',⟨BG.t,λt y hy=>BG.s t y (wx V7 GJ hy),BG.o⟩,hn,λk=>?_⟩
   rw [ht k,PX hk]
  |some y =>
   obtain⟨k,e⟩:=y;cases hM:f.Nj with
   |true =>
    simp only [hk,hM] at IV;have Yy:=uZ (ee GJ).2.1 hk hM;obtain⟨frA,frO⟩:=fresh k Yy;refine s_ (n':=up P (λa' o'=>a'=f.put (aR (HP listed) a (pre++f::r))/\o'=(k,e)::O')) hop ((IV _ _ _ hwk frA frO ⟨U,U⟩).k ρ h S L cz ac w s) ?_;rintro ac w ⟨S',h',L',s',Ex,_,_,BG,rfl,rfl⟩;refine next ac w ⟨Ex,h',S',L',_,s',⟨BG.t,λt y hy=>BG.s t y (wx V7 GJ hy),BG.o⟩,?_,λk'=>?_⟩
    ·simp only [L5,yy,zy];exact⟨λhm=>by obtain⟨⟨_,e'⟩,hy,rfl⟩:=y'.1 hm;exact(frO _ _ hy).1 U,hn⟩
    ·rw [Og hk V7 Ia GJ];simp only [BH];rw [ht k']
   |false =>
    simp only [hk,hM] at IV;obtain⟨e0,h0,IV⟩:=IV;refine s_ (n':=up P (λa' o'=>a'=f.put (aR (HP listed) a (pre++f::r))/\o'=(k,e)::D9 O' k)) hop ((IV _ _ _ hwk (by
     rw [ht k,ue hk hM V7 hda Ia GJ,<- ((QO U0 hkb (ee GJ).2.2.2).2 k).1];exact h0) fresh ⟨U,U⟩).k ρ h S L cz ac w s) ?_
    rintro ac w ⟨S',h',L',s',Ex,_,_,BG,rfl,rfl⟩;obtain⟨d1,d2⟩:=Zg (k:=k) hn;refine next ac w ⟨Ex,h',S',L',_,s',⟨BG.t,λt y hy=>BG.s t y (wx V7 GJ hy),BG.o⟩,?_,λk'=>?_⟩
    ·exact m135
    ·rw [Og hk V7 Ia GJ];simp only [BH];cases hb:Nat.beq k k' with
     |true=>rfl
     |false=>simp only [cond_false];rw [pq (λhh=>by subst hh;simp at hb),ht k']
theorem Drw {id:Nat}(hm:P.follows .mixedOrders=true) (hlen:es.length=l.length) (Np:L8 l.toArray 0 l=true) (GJ:Mx l.toArray base es=true) (hA:Gu a<=base) (hO:Ep o<=base) (U0:L5 o) (ob:a0m P F l.toArray x a o es) (k:n (aR CT a es) (oS o es)) :
 JD P F (.region id l.toArray true) n x a o:=.mk λρ h S L cz ac w s=>by
 refine wp_region_any hm ?_;have hp0:HP (Array.replicate l.toArray.size false)=λ_=>false:=by
  funext i
  unfold HP;simp only [Array.getD_eq_getD_getElem?,Array.getElem?_replicate];split<;>rfl
 have e1:∀ es:List Ef,aR (λ_=>false) a es=a:=by
  intro es
  induction es with
  |nil=>rfl
  |cons f r ih=>simp only [aR,cond_false,ih];split<;>rfl
 have e2:∀ (es:List Ef) k,tR (λ_=>false) (BH o) k es=BH o k:=by
  intro es k
  induction es with
  |nil=>rfl
  |cons f r ih=>simp only [tR,A5,cond_false,ih];split<;>rfl
 refine a6C hlen Np GJ hA hO U0 ob k _ _ ac _ (by simp [cnt]) (by simp) (by rw [hp0];intro i j hi;cases hi) ⟨ρ,h,S,L,o,⟨s.size,s.slot,s.ds,s.ok.drawn _⟩,by rw [hp0,e1];exact cz,U0,λk=>by rw [hp0,e2]⟩
end
def Cc (ops:Array Oper) (a:LO):Option (Nat×Bool)->Option Bool
 |none=>some true
 |some (j,b)=>match K_ ops.toList j with
  |some dj=>match BF a dj with
   |some (.d (.v u))=>gd (some u) b
   |some (.d (.bq true))=>gd (some (.bool true)) b
   |some (.d (.bq false))=>gd (some (.bool false)) b
   |_=>none
  |none=>none
theorem YW {ops:Array Oper}{a:LO}{g:Option (Nat×Bool)}{r:Bool}(h:Ub ops a g=some r):Cc ops a g=some r:=by
 unfold Ub at h;unfold Cc;split at h
 ·exact h
 ·split at h
  ·rename_i dj hj;simp only [hj];split at h
   ·rename_i hl;simp only [hl];exact h
   ·cases h
  ·cases h
variable{ρ:Ac}
section
variable {P:Program} [Tb P] {a:LO}{o:LQ}{ops:Array Oper}{g:Option (Nat×Bool)}
theorem YV (c:Cz P ρ h a o S L) (hg:Cc ops a g=some true):g=none\/∃ j dj b,g=some (j,b)/\(ops[j]?).bind (·.dst)=some dj/\look S dj=some (.bool b):=by
 unfold Cc at hg;split at hg
 ·exact .inl U
 ·rename_i j b;split at hg
  ·rename_i dj hj;rw [j9,yX] at hj;split at hg
   ·exact m111
   ·exact m112
   ·exact m112
   ·cases hg
  ·cases hg
theorem a9' (c:Cz P ρ h a o S L) (hg:Cc ops a g=some false):∃ j dj b,g=some (j,b)/\(ops[j]?).bind (·.dst)=some dj/\(look S dj=some (.bool (!b))\/∃ vs,look S dj=some (.tuple vs)):=by
 unfold Cc at hg;split at hg
 ·cases hg
 ·rename_i j b;split at hg
  ·rename_i dj hj;rw [j9,yX] at hj;split at hg
   ·exact m78
   ·exact m67
   ·exact m67
   ·cases hg
  ·cases hg
end
theorem aU {α:Type _}{l:List α}{m:Nat}{z:α}(h:m<l.length):l.getD m z=l[m]:=by simp [h]
theorem zO.all:∀ {L:LE},zO L L []
 |[]=>.nil
 |_::_=>.cons .here zO.all
def yi (P:Program) [Tb P] (F:Fd) (ops:Array Oper) (a:LO) (o:LQ) (op:Oper) (d:Nat) (u:A):Prop :=
 ∀ ρ h S L L' Lr,zO L' L Lr->Cz P ρ h a o S L'->∀ (N:yF) (X:Nat->yF) rest,(∀ v h',h.le h'->zN ρ h' u v->JL (F.fr P) ops N X rest ((d,v)::S) h' L)->JL (F.fr P) ops N X (op::rest) S h L
variable{os:Array Operand}{ts:Array TypeId}
section
variable {P:Program} [Tb P] {F:Fd}{n:y_}{x:Nat->y_}{a:LO}{o:LQ}{ops:Array Oper}{rest:LR}
variable {d:Nat}{q:Op}{ty:TypeId}{pos:String}{af:Array Edge}{g:Option (Nat×Bool)}{u:A}{op:Oper}
theorem xG.parts {f:Fr}{L L' Lr:LE}{v:Value}(p:zO L' L Lr) (r:xG f S h L' q ty v):xG f S h L q ty v:=λa w s=>r a w (s.with (p.ok w s.ok))
theorem yi.run (hg:Cc ops a g=some true) (hd:Nat.blt d F.m=true) (hv:∀ ρ h S L,Cz P ρ h a o S L->∃ v,xG (F.fr P) S h L q ty v/\zN ρ h u v):yi P F ops a o ⟨some d,q,ty,pos,af,g⟩ d u:=λρ h S L L' Lr p cz N X rest k=>by
 obtain⟨v,h1,h2⟩:=hv ρ h S L' cz;rcases YV cz hg with rfl|⟨j,dj,b,rfl,h3,h4⟩
 ·exact aA (h1.parts p) hd (k v h (aP h) h2)
 ·exact bz h3 h4 (h1.parts p) hd (k v h (aP h) h2)
theorem yi.no (hg:Cc ops a g=some false) (hd:Nat.blt d F.m=true):yi P F ops a o ⟨some d,q,ty,pos,af,g⟩ d (.d (.v undef)):=λρ h S L L' Lr p cz N X rest k=>by
 obtain⟨j,dj,b,rfl,h3,h4⟩:=a9' cz hg;exact JL.MU h3 h4 hd (k _ h (aP h) (jC.2 U))
theorem yi.call {Fi:Nat}{ds:List D}{d':D}(ha:Be P a os.toList ts.toList=some ds) (c:yq P Fi ds d') (hF:yH P Fi=true) (hg:Cc ops a g=some true) (hd:Nat.blt d F.m=true) :
 yi P F ops a o ⟨some d,.call { callee:=.value (.func Fi),args:=os,argTypes:=ts },ty,pos,af,g⟩ d (.d d'):=λρ h S L L' Lr p cz N X rest k=>by
 obtain⟨vs,h3,h4⟩:=cL cz ha;obtain⟨os⟩:=os;rcases YV cz hg with rfl|⟨j,dj,b,rfl,h5,h6⟩
 ·exact bS hF h3 (c.fn h vs cz.t h4) hd (λv h2 zH ⟨d',h7,h8⟩=>by subst h7;exact k v h2 zH h8)
 ·exact JL.ZP h5 h6 hF h3 (c.fn h vs cz.t h4) hd (λv h2 zH ⟨d',h7,h8⟩=>by subst h7;exact k v h2 zH h8)
def a8y:Int->Option Nat
 |.ofNat n=>a2f n
 |_=>none
omit [Tb P] in
theorem tq {R:DI α}{l:List α}{T e sz m:Nat}{xo yo:Operand}{kk:IntKind}{i:Int}{aa:OA}{cc:Nat}(hT:Ig P T=some (e,sz)) (hx:ev S xo=some (.slice aa l.length cc)) (hy:ev S yo=some (.int kk i)) (hi:i=(m:Int)) (hR:A3 R sz h aa cc l) (h1:m<l.length) :
 ∃ v,xG (F.fr P) S h L (.indexAddr T xo yo) ty v/\∃ b o,v=.pointer (some ⟨b,o,none⟩)/\∃ c cs,h b=some c/\UQ c o cs/\R h cs l[m]:=by
 obtain⟨v,h2,b,o',Bx,rfl,c,cs,h3,h4,h5,h6⟩:=aX (f:=F.fr P) (L:=L) (ty:=ty) hT hx hy hi hR U h1;exact⟨_,h2,b,o',U,c,cs,h3,λj hj=>h5 j xE,h6⟩
end
section
variable {P:Program} [CY P] [Tb P] {F:Fd}{n:y_}{x:Nat->y_}{a:LO}{o:LQ}{ops:Array Oper}{rest:LR}
variable {d:Nat}{q:Op}{ty:TypeId}{pos:String}{af:Array Edge}{g:Option (Nat×Bool)}{u:A}{op:Oper}{T:Nat}{xo yo:Operand}{kk:IntKind}{i:Int}{tt:Nat×Nat}
theorem yi.FJ (hv:FJ P a o q=some u) (hg:Cc ops a g=some true) (hd:Nat.blt d F.m=true):yi P F ops a o ⟨some d,q,ty,pos,af,g⟩ d u:=.run hg hd λρ h S L cz=>PQ cz hv
def pk3 (a:LO):Op->Option A
 |.pick c x y=>match z' a c with
  |some (.d (.bq true))=>z' a x
  |some (.d (.bq false))=>z' a y
  |_=>none
 |_=>none
omit [CY P] in
theorem a42 (c:Cz P ρ h a o S L) {y:Operand}{b:Bool}(hy:z' a y=some (.d (.bq b))):ev S y=some (.bool b):=by
 obtain⟨v,h1,h2⟩:=bv c hy;rw [ja.1 h2] at h1;exact h1
omit [CY P] in
theorem yi.pk (hv:pk3 a q=some u) (hg:Cc ops a g=some true) (hd:Nat.blt d F.m=true):yi P F ops a o ⟨some d,q,ty,pos,af,g⟩ d u:=.run hg hd λρ h S L cz=>by
 unfold pk3 at hv;split at hv
 ·split at hv
  ·rename_i hc;obtain⟨v,h1,h2⟩:=bv cz hv;exact⟨v,xG.JO (a42 cz hc) h1,h2⟩
  ·rename_i hc;obtain⟨v,h1,h2⟩:=bv cz hv;exact⟨v,xG.JP (a42 cz hc) h1,h2⟩
  ·cases hv
 ·cases hv
theorem ew {i:Int}{m:Nat}(h:a8y i=some m):i=(m:Int):=by
 unfold a8y at h;split at h
 ·rw [R6 h];rfl
 ·cases h
theorem yi.V1 {l:LN}(m:Nat) (hx:z' a xo=some (.d (.AX l))) (hy:z' a yo=some (.d (.v (.int kk i)))) (hT:EG (CY.sl P) T=some tt) (h5:Nat.beq tt.2 5=true) (hi:i=(m:Int)) (E_:i<(l.length:Int)) (hg:Cc ops a g=some true) (hd:Nat.blt d F.m=true) :
 yi P F ops a o ⟨some d,.indexAddr T xo yo,ty,pos,af,g⟩ d (.d (.pnd (l.getD m (.mk 0 0 false [] [])))):=.run hg hd λρ h S L cz=>by
 have h1:m<l.length:=by omega
 rw [aU h1];obtain⟨v,h2,h3⟩:=bv cz hx;obtain⟨aa,cc,rfl,hR⟩:=dy.1 h3;have e5:=am h5;have Ll:=CY.slt hT;rw [show tt=(tt.1,5) by rw [<- e5]] at Ll;obtain⟨w,h4,h6⟩:=tq (F:=F) (ty:=ty) (L:=L) Ll h2 (bR cz hy) hi hR h1;exact⟨w,h4,(mP (h:=h)).2 h6⟩
theorem yi.V2 {l:LB}(m:Nat) (hx:z' a xo=some (.d (.bs l))) (hy:z' a yo=some (.d (.v (.int kk i)))) (hT:EG (CY.sl P) T=some tt) (h5:Nat.beq tt.2 1=true) (hi:i=(m:Int)) (E_:i<(l.length:Int)) (hg:Cc ops a g=some true) (hd:Nat.blt d F.m=true) :
 yi P F ops a o ⟨some d,.indexAddr T xo yo,ty,pos,af,g⟩ d (.d (.ptr [.v (.int .u8 ((l.getD m 0).toNat:Int))])):=.run hg hd λρ h S L cz=>by
 have h1:m<l.length:=by omega
 rw [aU h1];obtain⟨v,h2,h3⟩:=bv cz hx;obtain⟨aa,cc,rfl,hR⟩:=AU.1 h3;have e5:=am h5;have Ll:=CY.slt hT;rw [show tt=(tt.1,1) by rw [<- e5]] at Ll;obtain⟨w,h4,b,o',h6,c,cs,h7,h8,h9⟩:=tq (F:=F) (ty:=ty) (L:=L) Ll h2 (bR cz hy) hi hR h1;exact⟨w,h4,(gE (h:=h)).2 ⟨b,o',h6,c,cs,h7,h8,a4E.1 h9⟩⟩
theorem yi.ix  [Inhabited α] {sz:Nat}{enc:α->List D}{l:List α}(m:Nat) (hx:z' a xo=some (.d (.sl sz enc l))) (hy:z' a yo=some (.d (.v (.int kk i)))) (hT:EG (CY.sl P) T=some tt) (h5:Nat.beq tt.2 sz=true) (hi:i=(m:Int)) (E_:i<(l.length:Int)) (hg:Cc ops a g=some true) (hd:Nat.blt d F.m=true) :
 yi P F ops a o ⟨some d,.indexAddr T xo yo,ty,pos,af,g⟩ d (.d (.ptr (enc (l.getD m default)))):=.run hg hd λρ h S L cz=>by
 have h1:m<l.length:=by omega
 rw [aU h1];obtain⟨v,h2,h3⟩:=bv cz hx;obtain⟨aa,cc,rfl,hR⟩:=iN.1 h3;have e5:=am h5;have Ll:=CY.slt hT;rw [show tt=(tt.1,sz) by rw [<- e5]] at Ll;obtain⟨w,h4,b,o',h6,c,cs,h7,h8,h9⟩:=tq (F:=F) (ty:=ty) (L:=L) Ll h2 (bR cz hy) hi hR h1;exact⟨w,h4,(gE (h:=h)).2 ⟨b,o',h6,c,cs,h7,h8,h9⟩⟩
end
section
variable {P:Program} [Tb P] {F:Fd}{n:y_}{x:Nat->y_}{a:LO}{o:LQ}{ops:Array Oper}{rest:LR}
variable {d:Nat}{ty:TypeId}{pos:String}{af:Array Edge}{u:A}{op:Oper}
theorem yi.lit {T len e sz bytes:Nat}{ps:Array (Nat×Operand)}{ds Iu:List D}{dd:D}(hp:H6 a 0 ps.toList=some ds) (hf:He P e ds=some Iu) (hl:Nb P Iu=some dd) (hT:Cy (Tb.ap P) T=some (e,sz,bytes)) (h1:Nat.beq sz (PY dd)=true) (h2:Nat.beq len ds.length=true) (h3:Nat.ble (len*sz) 16777216=true)
 (hd:Nat.blt d F.m=true):yi P F ops a o ⟨some d,.buildSlice T len ps,ty,pos,af,none⟩ d (.d dd):=λρ h S L L' Lr p cz N X rest k=>by
 obtain⟨vs,h4,h5⟩:=ic cz hp;obtain⟨h6,h7,h8,h9⟩:=ti hl (jx hf h5);have e1:=am h1;have e2:=am h2;have e3:=h5.len;have e4:len=vs.length:=by omega
 have e5:len*sz<=16777216:=by simpa using h3
 obtain⟨ps⟩:=ps;refine JL.IT vs (Tb.UM hT) h4 e4 (by rw [e1];exact h7) h3 (Nat.mul_pos xE xE) hd (λb=>?_);have hlm:len<=140737488355328:=by
  have:len<=len*sz:=yW _ xE;omega
 cases dd<;>simp only [J2] at h6
 ·obtain⟨_,hn,hc⟩:=h6;exact JL.LY .here hc xE (λh' hle hS=>k _ h' hle (by rw [e4,hn];exact(AU (h:=h')).2 ⟨_,_,U,hS⟩))
 ·obtain⟨_,hn,hc⟩:=h6;exact JL.LY .here hc xE (λh' hle hS=>k _ h' hle (by rw [e4,hn];exact(dy (h:=h')).2 ⟨_,_,U,hS⟩))
 ·obtain⟨_,hn,hc⟩:=h6;exact JL.LY .here hc xE (λh' hle hS=>k _ h' hle (by rw [e4,hn];exact(iN (h:=h')).2 ⟨_,_,U,hS⟩))
theorem Al.s1 (s:yi P F ops a o op d u) (k:Al P F ops n x rest ((d,u)::a) o):Al P F ops n x (op::rest) a o:=.mk λρ h S L cz =>
 s ρ h S L L [] .all cz _ _ _ (λ_ h' hle hv=>k.k ρ h' _ L (cF (cz.mono hle) hv d))
abbrev aI:=@Al.s1
theorem G6.s1 {b:LO}{ob:LQ}{r:List Ef}{us:List Nat}{Au:LO}(hk:Aa us (aR CT b r)=some Au) (s:yi P F ops Au [] op d u):G6 P F ops x b ob r (IX us [] d u) op :=
 ⟨Au,hk,λ_ A' O' hA hn=>.mk λρ h S L cz=>by
  obtain⟨L',Lr,h1,h2⟩:=cz.wk2 (o':=[]) hA trivial;exact s ρ h S L L' Lr h1 h2 _ _ _ (λv h' hle hv=>aj ⟨ρ,_,_,cF (cz.mono hle) hv d,hn⟩)⟩
theorem G6.s1r {b:LO}{ob:LQ}{r:List Ef}{us:List Nat}{Au:LO}{e:OE}(hk:Aa us (aR CT b r)=some Au) (h0:BH (oS ob r) k=some e) (s:yi P F ops Au [(k,e)] op d u):G6 P F ops x b ob r (IX us [k] d u) op :=
 ⟨Au,hk,λ_ A' O' hA hO hn=>.mk λρ h S L cz=>by
  obtain⟨L',Lr,h1,h2⟩:=cz.wk2 (o':=[(k,e)]) hA ⟨(hO k (by simp [Eh])).trans h0,trivial⟩;exact s ρ h S L L' Lr h1 h2 _ _ _ (λv h' hle hv=>aj ⟨ρ,_,_,cF (cz.mono hle) hv d,hn⟩)⟩
end
def ObQ (P:Program) [Tb P] (F:Fd) (ops:Array Oper) (x:Nat->y_) (b:LO) (ob:LQ) (es:List Ef):List Ef->Prop
 |[]=>True
 |f::r=>(∃ op,ops[(r++es).length]?=some op/\G6 P F ops x b ob (r++es) f op)/\ObQ P F ops x b ob es r
structure JX (P:Program) [Tb P] (F:Fd) (ops:Array Oper) (n:y_) (x:Nat->y_) (b:LO) (ob:LQ) (base:Nat) (es:List Ef) (l:LR) (a:LO) (o:LQ):Prop where
 k:(∀ i:Nat,l[i]?=ops[es.length+i]?)->a=aR CT b es->o=oS ob es->∃ q,q.length=l.length/\Mx ops base (q++es)=true/\ObQ P F ops x b ob es q/\n (aR CT b (q++es)) (oS ob (q++es))
section
variable {P:Program} [Tb P] {F:Fd}{n:y_}{x:Nat->y_}{a b:LO}{o ob:LQ}{ops:Array Oper}{l rest:LR}{base:Nat}{es:List Ef}{op:Oper}
theorem ObQ.snoc {f:Ef}:∀ {q:List Ef},ObQ P F ops x b ob (f::es) q->(∃ op,ops[es.length]?=some op/\G6 P F ops x b ob es f op)->ObQ P F ops x b ob es (q++[f])
 |[],_,h=>⟨h,trivial⟩
 |g::q,h1,h=>by
  have e:q.append [f]++es=q++f::es:=by
   show q++[f]++es=_;simp
  refine⟨?_,ObQ.snoc h1.2 h⟩;rw [e];exact h1.1
theorem JX.put {f:Ef}{a':LO}{o':LQ}(h:a=aR CT b es->o=oS ob es->G6 P F ops x b ob es f op/\a'=aR CT b (f::es)/\o'=oS ob (f::es)) (k:JX P F ops n x b ob base (f::es) rest a' o'):JX P F ops n x b ob base es (op::rest) a o:=.mk λhl ha ho=>by
 obtain⟨h1,h2,h3⟩:=h ha ho;obtain⟨q,k1,k2,k4,k5⟩:=k.k (λi=>by have:=hl (i+1);simp only [Ab,aw] at this |-;rw [this];congr 1;omega) h2 h3;have e:q++[f]++es=q++f::es:=by simp
 have hop:ops[es.length]?=some op:=by have:=hl 0;simpa using this.symm
 exact⟨q++[f],by simp [k1],by rw [e];exact k2,ObQ.snoc k4 ⟨op,hop,h1⟩,by rw [e];exact k5⟩
theorem JX.nil (GJ:Mx ops base es=true) (k:n a o):JX P F ops n x b ob base es [] a o:=.mk λ_ ha ho =>
 ⟨[],U,GJ,trivial,by subst ha ho;exact k⟩
abbrev bI:=@JX.nil
theorem JX.s1 {d:Nat}{u:A}(us:List Nat) {Au:LO}(hk:Aa us a=some Au) (s:yi P F ops Au [] op d u) (k:JX P F ops n x b ob base (IX us [] d u::es) rest ((d,u)::a) o):JX P F ops n x b ob base es (op::rest) a o :=
 JX.put (λha ho=>by subst ha ho;exact⟨G6.s1 hk s,U,U⟩) k
theorem JX.s1r {d:Nat}{u:A}(us:List Nat) {Au:LO}{kk:Nat}{e:OE}(hk:Aa us a=some Au) (h0:BH o kk=some e) (s:yi P F ops Au [(kk,e)] op d u) (k:JX P F ops n x b ob base (IX us [kk] d u::es) rest ((d,u)::a) o):JX P F ops n x b ob base es (op::rest) a o :=
 JX.put (λha ho=>by subst ha ho;exact⟨G6.s1r hk h0 s,U,U⟩) k
def M4:LQ->Bool
 |[]=>true
 |(k,_)::r=>(r.all λy=>!Nat.beq y.1 k)&&M4 r
theorem r7:∀ {o:LQ},M4 o=true->L5 o
 |[],_=>List.nodup_nil
 |(k,e)::r,h=>by
  simp only [M4,xB] at h;simp only [L5,yy,zy];refine⟨λhm=>?_,r7 h.2⟩;obtain⟨⟨k',e'⟩,hy,rfl⟩:=y'.1 hm;have:=xH.1 h.1 _ hy;simp at this
theorem Xg {id:Nat}{l:LR}{base:Nat}(hm:P.follows .mixedOrders=true) (Np:L8 l.toArray 0 l=true) (U0:M4 o=true) (hb:Cr a o=some base) (k:JX P F l.toArray n x a o base [] l a o):JD P F (.region id l.toArray true) n x a o:=by
 obtain⟨q,k1,k2,k4,k5⟩:=k.k (λi=>by simp) U U;have G5:=oZ hb;simp only [Ak] at k2 k5;have b0N:=r7 U0;have conv:∀ {q:List Ef},ObQ P F l.toArray x a o [] q->a0m P F l.toArray x a o q:=by
  intro q
  induction q with
  |nil=>intro _;trivial
  |cons f r ih =>
   intro h;have h1:=h.1;simp only [Ak] at h1;exact⟨h1,ih h.2⟩
 exact Drw hm k1 Np k2 (by rw [G5];exact KM _ _) (by rw [G5];exact M6 _ _) b0N (conv k4) k5
end
def tm:Operand->List Nat
 |.tmp t=>[t]
 |_=>[]
def IF:List Operand->List Nat
 |[]=>[]
 |.tmp t::r=>t::IF r
 |_::r=>IF r
def a0F:List (Nat×Operand)->List Nat
 |[]=>[]
 |(_,.tmp t)::r=>t::a0F r
 |_::r=>a0F r
def MN:Op->List Nat
 |.move x=>tm x
 |.assign x=>tm x
 |.pick c x y=>IF [c,x,y]
 |.extract x _=>tm x
 |.nilCheck x=>tm x
 |.unOp _ _ x=>tm x
 |.binOp _ _ x y _=>IF [x,y]
 |.call c=>IF c.args.toList
 |.fieldAddr _ x _=>tm x
 |.load _ x=>tm x
 |.build _ ps=>a0F ps.toList
 |.buildSlice _ _ ps=>a0F ps.toList
 |.box _ x=>tm x
 |.store _ x y=>IF [x,y]
 |.indexAddr _ x y=>IF [x,y]
 |.convert _ _ x=>tm x
 |.slice _ x lo hi _=>IF (x::(lo.toList++hi.toList))
 |_=>[]
def PS (ops:Array Oper) (q:Op):Option (Nat×Bool)->List Nat
 |none=>MN q
 |some (j,_)=>match K_ ops.toList j with
  |some dj=>dj::MN q
  |none=>MN q
def rdX (a:LO):Op->Option Nat
 |.load _ x=>match z' a x with
  |some (.own k _)=>some k
  |_=>none
 |.call c=>match c.callee,c.args.toList with
  |.builtin .len,[x]=>match z' a x with
   |some (.row k)=>some k
   |_=>none
  |_,_=>none
 |_=>none
def stX (P:Program) [CY P] [Tb P] (m:Nat) (ops:Array Oper) (a:LO) (o:LQ):Oper->Option Ef
 |⟨some d,q,_,_,_,g⟩=>match Aa (PS ops q g) a with
  |some Au=>match Ub ops Au g with
   |some true=>bif Nat.blt d m then match rdX Au q with
    |some k=>match BH o k with
     |some e=>match FJ P Au [(k,e)] q with
      |some u=>some ⟨PS ops q g,[k],some (d,u),none,false,none⟩
      |none=>none
     |none=>none
    |none=>match FJ P Au [] q with
     |some u=>some ⟨PS ops q g,[],some (d,u),none,false,none⟩
     |none=>match g,q with
      |none,.alloc T=>match Cr a o,Tb.zr P T with
       |some k,some zs=>match SK zs with
        |some cs=>some ⟨PS ops q g,[],some (d,.own k 0),some (k,.var T cs),true,some k⟩
        |none=>none
       |_,_=>none
      |none,.buildSlice T len ps=>match H6 Au 0 ps.toList with
       |some ds=>match Cy (Tb.ap P) T with
        |some (e,sz,_)=>match He P e ds with
         |some Iu=>match Nb P Iu with
          |some dd=>bif Nat.beq sz (PY dd) then bif Nat.beq len ds.length then bif Nat.ble (len*sz) 16777216 then some ⟨PS ops q g,[],some (d,.d dd),none,false,none⟩ else none else none else none
          |none=>none
         |none=>none
        |none=>none
       |none=>none
      |_,_=>none
     else none
   |some false=>bif Nat.blt d m then some ⟨PS ops q g,[],some (d,.d (.v undef)),none,false,none⟩ else none
   |none=>none
  |none=>none
 |⟨none,.store T x y,_,_,_,none⟩=>match Aa (IF [x,y]) a with
  |some Au=>match W7 P Au o T x y with
   |some (k,e)=>some ⟨IF [x,y],[],none,some (k,e),false,none⟩
   |_=>none
  |none=>none
 |_=>none
def b0_ (f:Ef) (o:LQ):LQ:=match f.key with
 |none=>o
 |some (k,e)=>match f.Nj with
  |true=>(k,e)::o
  |false=>(k,e)::D9 o k
def a57 (P:Program) [CY P] [Tb P] (m:Nat) (ops:Array Oper):Nat->List Ef->LO->LQ->LR->Option ((List Ef×LO×LQ)×LR)
 |0,es,a,o,l=>some ((es,a,o),l)
 |k+1,es,a,o,q::l=>match stX P m ops a o q with
  |some ⟨us,rd,some (d,u),none,i,nw⟩=>a57 P m ops k (⟨us,rd,some (d,u),none,i,nw⟩::es) ((d,u)::a) o l
  |some ⟨us,rd,some (d,u),some (kk,e),true,nw⟩=>a57 P m ops k (⟨us,rd,some (d,u),some (kk,e),true,nw⟩::es) ((d,u)::a) ((kk,e)::o) l
  |some ⟨us,rd,none,some (kk,e),false,nw⟩=>match H7 o kk with
   |some o'=>a57 P m ops k (⟨us,rd,none,some (kk,e),false,nw⟩::es) a ((kk,e)::o') l
   |none=>none
  |_=>none
 |_+1,_,_,_,[]=>none
section
variable {P:Program} [CY P] [Tb P] {F:Fd}{n:y_}{x:Nat->y_}{a a' b:LO}{o o' ob:LQ}{ops:Array Oper}{l l' rest:LR}{base:Nat}{es es':List Ef}{op:Oper}
omit [CY P] in
theorem G6.alloc {r:List Ef}{us:List Nat}{d T k:Nat}{ty:TypeId}{pos:String}{af:Array Edge}{zs:List D}{cs:List A}{Au:LO}(hk:Aa us (aR CT b r)=some Au) (hz:Tb.zr P T=some zs) (hc:SK zs=some cs) (hd:Nat.blt d F.m=true) :
 G6 P F ops x b ob r (eMk us d k (.own k 0) (.var T cs)) ⟨some d,.alloc T,ty,pos,af,none⟩:=⟨Au,hk,λ_ A' O' _ hA hO hn=>.mk λρ h S L cz=>by
 obtain⟨zv,h1,h2⟩:=Tb.hzr hz;refine bp h1 hd (λbb=>?_);have BG:=cz.fresh (ρ.XA k bb) hA hO;refine aj ⟨ρ.Hs k bb,_,_,cF (u:=.own k 0) (⟨BG.t,BG.s,_,L,U,⟨zv,by rw [gS],ij hc (h2 h)⟩,BG.o⟩:Cz P (ρ.Hs k bb) h A' ((k,.var T cs)::O') S (.yY bb T zv::L)) (by show _=_;rw [gS]) d,hn⟩⟩
omit [CY P] in
theorem G6.store {r:List Ef}{T k:Nat}{y z:Operand}{ty:TypeId}{pos:String}{af:Array Edge}{e:OE}{Au:LO}(hk:Aa (IF [y,z]) (aR CT b r)=some Au) (hs:W7 P Au (oS ob r) T y z=some (k,e)) :
 G6 P F ops x b ob r (b1p (IF [y,z]) k e) ⟨none,.store T y z,ty,pos,af,none⟩:=by
 obtain⟨e0,off,t,cs,u,h1,h2,h3,h5,h6⟩:=Q6 hs;refine⟨Au,hk,e0,h3,λ_ A' O' hA hO _ hn=>.mk λρ h S L cz=>?_⟩;obtain⟨w,L',hD,hE,hr⟩:=cz.o.get hO;obtain⟨vs,rfl,Dk⟩:=h6 ρ h w hE;have czu:=cz.wk hA;obtain⟨v,g1,g2⟩:=bv czu h1;cases g2;have hz:z' A' z=some u:=by
  cases z with
  |tmp tz=>exact hA.lk h2
  |_=>exact h2
 exact W6 cz g1 hz hD Dk hr h5 (Al.nil hn)
theorem Oj {f:Ef}(hs:stX P F.m ops a o op=some f) (k:JX P F ops n x b ob base (f::es) rest (f.put a) (b0_ f o)):JX P F ops n x b ob base es (op::rest) a o:=by
 unfold stX at hs;split at hs
 ·rename_i d q ty pos af g;split at hs
  ·rename_i Au hAu;split at hs
   ·rename_i hg;cases hd:Nat.blt d F.m with
    |false=>rw [hd] at hs;cases hs
    |true =>
     rw [hd,cond_true] at hs;split at hs
     ·rename_i kk V6;split at hs
      ·rename_i e0 hlk;split at hs<;>cases hs;rename_i u hv;exact JX.s1r _ hAu hlk (yi.FJ hv (YW hg) hd) k
      ·cases hs
     split at hs
     ·rename_i u hv;cases hs;exact JX.s1 _ hAu (yi.FJ hv (YW hg) hd) k
     ·split at hs
      ·rename_i T;split at hs
       ·rename_i kk zs hk hz;split at hs<;>cases hs;rename_i cs hc;exact JX.put (λha ho=>⟨G6.alloc (by rw [<- ha];exact hAu) hz hc hd,by subst ha;rfl,by subst ho;rfl⟩) k
       ·cases hs
      ·rename_i T len ps x4 x5;split at hs
       ·rename_i ds hp;split at hs<;>try (cases hs;done)
        rename_i e sz _ hT;split at hs<;>try (cases hs;done)
        rename_i Iu hf;split at hs
        ·rename_i dd hl;cases h1:Nat.beq sz (PY dd) with
         |false=>rw [h1] at hs;cases hs
         |true =>
          rw [h1,cond_true] at hs;cases h2:Nat.beq len ds.length with
          |false=>rw [h2] at hs;cases hs
          |true =>
           rw [h2,cond_true] at hs;cases h3:Nat.ble (len*sz) 16777216 with
           |false=>rw [h3] at hs;cases hs
           |true=>rw [h3,cond_true] at hs;cases hs;exact JX.s1 _ hAu (yi.lit hp hf hl hT h1 h2 h3 hd) k
        ·cases hs
       ·cases hs
      ·cases hs
   ·rename_i hg;cases hd:Nat.blt d F.m with
    |false=>rw [hd] at hs;cases hs
    |true=>rw [hd,cond_true] at hs;cases hs;exact JX.s1 _ hAu (yi.no (YW hg) hd) k
   ·cases hs
  ·cases hs
 ·rename_i T y z ty pos af;split at hs
  ·rename_i Au hAu;split at hs<;>cases hs;rename_i kk e DW;refine JX.put (λha ho=>⟨G6.store (by rw [<- ha];exact hAu) (by rw [<- ho];exact DW),by subst ha;rfl,by subst ho;rfl⟩) k
  ·cases hs
 ·cases hs
def Oy (P:Program) [CY P] [Tb P] (m:Nat) (ops:Array Oper):List Ef->LO->LQ->LR->Option ((List Ef×LO×LQ)×LR)
 |es,a,o,[]=>some ((es,a,o),[])
 |es,a,o,q::l=>match stX P m ops a o q with
  |some ⟨us,rd,some (d,u),none,i,nw⟩=>Oy P m ops (⟨us,rd,some (d,u),none,i,nw⟩::es) ((d,u)::a) o l
  |some ⟨us,rd,some (d,u),some (kk,e),true,nw⟩=>Oy P m ops (⟨us,rd,some (d,u),some (kk,e),true,nw⟩::es) ((d,u)::a) ((kk,e)::o) l
  |some ⟨us,rd,none,some (kk,e),false,nw⟩=>match H7 o kk with
   |some o'=>Oy P m ops (⟨us,rd,none,some (kk,e),false,nw⟩::es) a ((kk,e)::o') l
   |none=>some ((es,a,o),q::l)
  |_=>some ((es,a,o),q::l)
theorem RY (hs:Oy P F.m ops es a o l=some ((es',a',o'),l')) (kk:JX P F ops n x b ob base es' l' a' o'):JX P F ops n x b ob base es l a o:=by
 induction l generalizing es a o with
 |nil=>simp only [Oy,au,zu] at hs;obtain⟨⟨rfl,rfl,rfl⟩,rfl⟩:=hs;exact kk
 |cons q l ih =>
  simp only [Oy] at hs;split at hs
  ·rename_i h1;exact Oj h1 (ih hs)
  ·rename_i h1;exact Oj h1 (ih hs)
  ·rename_i h1;split at hs
   ·rename_i o2 hq;obtain rfl:=eZ hq;exact Oj h1 (ih hs)
   ·exact m182
  ·exact m182
theorem HA {q:Oper}(hs:Oy P F.m ops es a o (q::l)=some ((es',a',o'),l')) (hp:Nat.ble l'.length l.length=true) (kk:JX P F ops n x b ob base es' l' a' o'):JX P F ops n x b ob base es (q::l) a o:=RY hs kk
end
section
variable {P:Program} [Tb P] {F:Fd}{n:y_}{x:Nat->y_}{a b Au:LO}{o ob:LQ}{ops:Array Oper}{rest:LR}{base:Nat}{es:List Ef}
variable {d Fi:Nat}{ty:TypeId}{pos:String}{af:Array Edge}{g:Option (Nat×Bool)}{os:Array Operand}{ts:Array TypeId}{ds:List D}{d':D}
theorem Cx (hk:Aa (PS ops (.call { callee:=.value (.func Fi),args:=os,argTypes:=ts }) g) a=some Au) (ha:Be P Au os.toList ts.toList=some ds) (c:yq P Fi ds d')
 (k:JX P F ops n x b ob base (IX (PS ops (.call { callee:=.value (.func Fi),args:=os,argTypes:=ts }) g) [] d (.d d')::es) rest ((d,.d d')::a) o)
 (hF:yH P Fi=true:=by kernel_rfl) (hg:Cc ops Au g=some true:=by rfl) (hd:Nat.blt d F.m=true:=by rfl) :
 JX P F ops n x b ob base es (⟨some d,.call { callee:=.value (.func Fi),args:=os,argTypes:=ts },ty,pos,af,g⟩::rest) a o :=
 JX.s1 _ hk (yi.call ha c hF hg hd) k
theorem BX {l:LR}{c:Bool}{p q:Prop} [s:Sp c p q] (k1:c=true->p->JX P F ops n x b ob base es l a o) (k2:c=false->q->JX P F ops n x b ob base es l a o):JX P F ops n x b ob base es l a o:=by
 cases hc:c with
 |true=>exact k1 hc (s.t hc)
 |false=>exact k2 hc (s.f hc)
theorem JX.s2 {q:Op}{u:A}(hk:Aa (PS ops q g) a=some Au) (s:yi P F ops Au [] ⟨some d,q,ty,pos,af,g⟩ d u) (k:JX P F ops n x b ob base (IX (PS ops q g) [] d u::es) rest ((d,u)::a) o):JX P F ops n x b ob base es (⟨some d,q,ty,pos,af,g⟩::rest) a o:=JX.s1 _ hk s k
abbrev bm:=@JX.s2
end
section
variable {P:Program} [CY P] [Tb P] {F:Fd}{n:y_}{x:Nat->y_}{a b Au:LO}{o ob:LQ}{ops:Array Oper}{rest:LR}{base kk:Nat}{es:List Ef}
variable {d:Nat}{ty:TypeId}{pos:String}{af:Array Edge}{g:Option (Nat×Bool)}{q:Op}{u:A}{e:OE}
omit [CY P] in
theorem EK {l:LR}(t:Nat) {c:Bool}{p q:Prop}(_:BF a t=some (.d (.bq c))) [s:Sp c p q] (k1:c=true->p->JX P F ops n x b ob base es l a o) (k2:c=false->q->JX P F ops n x b ob base es l a o):JX P F ops n x b ob base es l a o:=BX k1 k2
theorem JX.s2r (hk:Aa (PS ops q g) a=some Au) (hr:rdX Au q=some kk) (h0:BH o kk=some e) (hv:FJ P Au [(kk,e)] q=some u) (hg:Cc ops Au g=some true) (hd:Nat.blt d F.m=true) (k:JX P F ops n x b ob base (IX (PS ops q g) [kk] d u::es) rest ((d,u)::a) o):JX P F ops n x b ob base es (⟨some d,q,ty,pos,af,g⟩::rest) a o:=JX.s1r _ hk h0 (yi.FJ hv hg hd) k
end
theorem Ok.a5U {e:Env}{w:World}(k:Ok e h L w) (C:Array Value) (t:TypeId) (fr:Nat×Nat):h.le (h.add w.heap.size C)/\Ok e (h.add w.heap.size C) L (w.drew.alloc (.cells C t fr)):=by
 have Yx:h w.heap.size=none:=by
  exact m72
 have hle:h.le (h.add w.heap.size C):=λb c hc=>by
  unfold Part.add;split
  ·rename_i e';subst e';rw [Yx] at hc;cases hc
  ·exact hc
 have C6:∀ b,b<w.heap.size->(w.drew.alloc (.cells C t fr)).heap[b]?=w.heap[b]?:=λb hb=>IQ w.drew _ _ hb;have Yy:(w.drew.alloc (.cells C t fr)).heap[w.heap.size]?=some (.cells C t fr):=heap_alloc_new w.drew _;refine⟨hle,k.os,k.tape,k.output,?_,λb hb hm=>?_,λb c hc=>?_,k.le.trans hle,λb c hc=>?_,λx hx=>?_,λb hb=>?_,k.nodup⟩
 ·have:=k.size;show e.w0.heap.size<=(w.heap.push (.cells C t fr)).size;simp;omega
 ·rw [C6 b (zi hb k.size)];exact k.M1 b hb hm
 ·unfold Part.add at hc;split at hc
  ·rename_i e';subst e';cases hc;exact⟨t,fr,Yy⟩
  ·obtain⟨t',fr',he⟩:=k.sub b c hc;exact⟨t',fr',by rw [C6 b (k.sub.lt hc)];exact he⟩
 ·unfold Part.add at hc;split at hc
  ·rename_i e';subst e';exact .inr (.inl k.size)
  ·exact k.fresh b c hc
 ·exact Br.P1 (k.own x hx) λb hb=>C6 b (Br.lt (k.own x hx) hb)
 ·refine⟨?_,(k.key b hb).2⟩;unfold Part.add;rw [xC (λe'=>by subst e';have:=k.klt hb;omega)];exact(k.key b hb).1
def a7c (P:Program) (src dst:Nat):Bool:=match P.underlying src,P.underlying dst with
 |some .string,some (.slice e)=>match P.underlying e with
  |some (.int .u8)=>true
  |_=>false
 |_,_=>false
theorem a3a {src dst:Nat}(h:a7c P src dst=true):P.underlying src=some .string/\∃ e,P.underlying dst=some (.slice e)/\P.underlying e=some (.int .u8):=by
 unfold a7c at h;split at h
 ·rename_i e h1 h2;split at h
  ·rename_i h3;exact⟨h1,e,h2,h3⟩
  ·cases h
 ·cases h
section
variable {P:Program} [Tb P] {F:Fd}{n:y_}{x:Nat->y_}{a:LO}{o:LQ}{ops:Array Oper}{rest:LR}
variable {d:Nat}{ty:TypeId}{pos:String}{af:Array Edge}{g:Option (Nat×Bool)}{src dst:Nat}{xo yo:Operand}{l:LB}
theorem yi.MT (hx:z' a xo=some (.d (.bs l))) (hT:a0N P src dst=true) (hg:Cc ops a g=some true) (hd:Nat.blt d F.m=true):yi P F ops a o ⟨some d,.convert src dst xo,ty,pos,af,g⟩ d (.d (.v (.string ⟨l.toArray⟩))):=.run hg hd λρ h S L cz=>by
 obtain⟨v,h1,h2⟩:=bv cz hx;obtain⟨aa,cc,rfl,hR⟩:=AU.1 h2;exact⟨_,xG.MT hT h1 hR U,bh (h:=h)⟩
theorem yi.bytes (hx:z' a xo=some (.d (.v (.string ⟨⟨l⟩⟩)))) (hT:a7c P src dst=true) (hb:l.length<=140737488355328) (hd:Nat.blt d F.m=true):yi P F ops a o ⟨some d,.convert src dst xo,ty,pos,af,none⟩ d (.d (.bs l)):=λρ h S L L' Lr p cz N X rest k ac w s=>by
 obtain⟨e1,e,e2,e3⟩:=a3a hT;have hv:=bR cz hx;have Gc:=run_bytes_of_string (P:=P) w src dst e ⟨⟨l⟩⟩ e1 e2 e3;have CP:ByteArray.size ⟨⟨l⟩⟩=l.length:=rfl;have CK:=grownCap_ge w l.length 0 e;have hlm:=grownCap_le_maxLen w l.length 0 e (by simp only [maxLen];omega);rw [CP] at Gc;obtain⟨hle,zt⟩:=s.ok.a5U (bytesRow ⟨⟨l⟩⟩ (grownCap w l.length 0 e)) e ((bytesRow ⟨⟨l⟩⟩ (grownCap w l.length 0 e)).size,(bytesRow ⟨⟨l⟩⟩ (grownCap w l.length 0 e)).size+1);refine cx (v:=.slice (some ⟨w.heap.size,0,none⟩) l.length (grownCap w l.length 0 e)) (w':=w.drew.alloc (.cells (bytesRow ⟨⟨l⟩⟩ (grownCap w l.length 0 e)) e ((bytesRow ⟨⟨l⟩⟩ (grownCap w l.length 0 e)).size,(bytesRow ⟨⟨l⟩⟩ (grownCap w l.length 0 e)).size+1))) U (by simp [execOp,s.eval hv,Gc]) ?_;refine k _ _ hle ((AU (h:=_)).2 ⟨_,_,U,CK,hlm,hb,(λhh=>by cases hh),λi x hx=>⟨w.heap.size,0,U,_,[.int .u8 (x.toNat:Int)],by simp [Part.add];rfl,U,λj hj=>?_,U⟩⟩) _ _ (s.put hd _ zt);have hi:=(xS.1 hx).1;have P8:j=0:=by omega
 subst P8;unfold bytesRow;rw [C4 (by simp;omega)];simp [hx]
end
section
variable {P:Program} [CY P] [Tb P] {F:Fd}{n:y_}{x:Nat->y_}{a:LO}{o:LQ}{ops:Array Oper}{rest:LR}
variable {d:Nat}{ty:TypeId}{pos:String}{af:Array Edge}{g:Option (Nat×Bool)}{T:Nat}{xo lo hi:Operand}{tt:Nat×Nat}{kk k2:IntKind}{i j:Int}
omit [Tb P] in
theorem Zt {R:DI α}{l:List α}{sz m:Nat}{aa:OA}{cc:Nat}(hT:EG (CY.sl P) T=some tt) (h5:Nat.beq tt.2 sz=true) (hx:ev S xo=some (.slice aa l.length cc)) (hR:A3 R sz h aa cc l) (hl:ev S lo=some (.int kk i)) (Bx:i=(m:Int)) (h1:m<=l.length) :
 ∃ v,xG (F.fr P) S h L (.slice T xo (some lo) none none) ty v/\∃ a' c',v=.slice a' (l.drop m).length c'/\A3 R sz h a' c' (l.drop m):=by
 have e5:=am h5;have Ll:=CY.slt hT;rw [show tt=(tt.1,sz) by rw [<- e5]] at Ll;exact AB.S9 (f:=F.fr P) (L:=L) (ty:=ty) Ll hx hl Bx hR U h1
omit [Tb P] in
theorem a6F {R:DI α}{l:List α}{sz m:Nat}{aa:OA}{cc:Nat}(hT:EG (CY.sl P) T=some tt) (h5:Nat.beq tt.2 sz=true) (hx:ev S xo=some (.slice aa l.length cc)) (hR:A3 R sz h aa cc l) (hl:ev S hi=some (.int kk i)) (Bx:i=(m:Int)) (h1:m<=l.length) :
 ∃ v,xG (F.fr P) S h L (.slice T xo none (some hi) none) ty v/\∃ a' c',v=.slice a' (l.take m).length c'/\A3 R sz h a' c' (l.take m):=by
 have e5:=am h5;have Ll:=CY.slt hT;rw [show tt=(tt.1,sz) by rw [<- e5]] at Ll;exact AB.NK (f:=F.fr P) (L:=L) (ty:=ty) Ll hx hl Bx hR U h1
theorem yi.Z1 {l:LB}(m:Nat) (hx:z' a xo=some (.d (.bs l))) (hl:z' a lo=some (.d (.v (.int kk i)))) (hT:EG (CY.sl P) T=some tt) (h5:Nat.beq tt.2 1=true) (Bx:i=(m:Int)) (h1:m<=l.length) (hg:Cc ops a g=some true) (hd:Nat.blt d F.m=true) :
 yi P F ops a o ⟨some d,.slice T xo (some lo) none none,ty,pos,af,g⟩ d (.d (.bs (l.drop m))):=.run hg hd λρ h S L cz=>by
 obtain⟨v,h2,h3⟩:=bv cz hx;obtain⟨aa,cc,rfl,hR⟩:=AU.1 h3;obtain⟨w,h4,h6⟩:=Zt (F:=F) (ty:=ty) (L:=L) hT h5 h2 hR (bR cz hl) Bx h1;exact⟨w,h4,(AU (h:=h)).2 h6⟩
theorem yi.Z0 {l:LN}(m:Nat) (hx:z' a xo=some (.d (.AX l))) (hl:z' a lo=some (.d (.v (.int kk i)))) (hT:EG (CY.sl P) T=some tt) (h5:Nat.beq tt.2 5=true) (Bx:i=(m:Int)) (h1:m<=l.length) (hg:Cc ops a g=some true) (hd:Nat.blt d F.m=true) :
 yi P F ops a o ⟨some d,.slice T xo (some lo) none none,ty,pos,af,g⟩ d (.d (.AX (l.drop m))):=.run hg hd λρ h S L cz=>by
 obtain⟨v,h2,h3⟩:=bv cz hx;obtain⟨aa,cc,rfl,hR⟩:=dy.1 h3;obtain⟨w,h4,h6⟩:=Zt (F:=F) (ty:=ty) (L:=L) hT h5 h2 hR (bR cz hl) Bx h1;exact⟨w,h4,(dy (h:=h)).2 h6⟩
theorem yi.toB {l:LB}(m:Nat) (hx:z' a xo=some (.d (.bs l))) (hl:z' a hi=some (.d (.v (.int kk i)))) (hT:EG (CY.sl P) T=some tt) (h5:Nat.beq tt.2 1=true) (Bx:i=(m:Int)) (h1:m<=l.length) (hg:Cc ops a g=some true) (hd:Nat.blt d F.m=true) :
 yi P F ops a o ⟨some d,.slice T xo none (some hi) none,ty,pos,af,g⟩ d (.d (.bs (l.take m))):=.run hg hd λρ h S L cz=>by
 obtain⟨v,h2,h3⟩:=bv cz hx;obtain⟨aa,cc,rfl,hR⟩:=AU.1 h3;obtain⟨w,h4,h6⟩:=a6F (F:=F) (ty:=ty) (L:=L) hT h5 h2 hR (bR cz hl) Bx h1;exact⟨w,h4,(AU (h:=h)).2 h6⟩
end
section
variable {P:Program} [Tb P] {F:Fd}{n:y_}{x:Nat->y_}{a a' a1:LO}{o o' o1:LQ}{ops:Array Oper}{rest:LR}
variable {d:Nat}{ty T yt:TypeId}{pos:String}{af:Array Edge}{g:Option (Nat×Bool)}{xo yo:Operand}{p q:Int}
theorem yi.bin {k k' kr:IntKind}{r:Int}{bo:BinOp}(hx:z' a xo=some (.d (.v (.int k p)))) (hy:z' a yo=some (.d (.v (.int k' q)))) (hr:∀ S h L,ev S xo=some (.int k p)->ev S yo=some (.int k' q)->xG (F.fr P) S h L (.binOp bo T xo yo yt) ty (.int kr r)) (hg:Cc ops a g=some true) (hd:Nat.blt d F.m=true) :
 yi P F ops a o ⟨some d,.binOp bo T xo yo yt,ty,pos,af,g⟩ d (.d (.v (.int kr r))):=.run hg hd λρ h S L cz=>⟨_,hr S h L (bR cz hx) (bR cz hy),bh (h:=h)⟩
theorem yi.add (hx:z' a xo=some (.d (.v (.int .i64 p)))) (hy:z' a yo=some (.d (.v (.int .i64 q)))) (h0:-9223372036854775808<=p+q/\p+q<=9223372036854775807) (hg:Cc ops a g=some true) (hd:Nat.blt d F.m=true) :
 yi P F ops a o ⟨some d,.binOp .add T xo yo yt,ty,pos,af,g⟩ d (.d (.v (.int .i64 (p+q)))):=.bin hx hy (λ_ _ _ h1 h2=>xG.Mr h1 h2 h0.1 h0.2) hg hd
theorem yi.sub (hx:z' a xo=some (.d (.v (.int .i64 p)))) (hy:z' a yo=some (.d (.v (.int .i64 q)))) (h0:-9223372036854775808<=p-q/\p-q<=9223372036854775807) (hg:Cc ops a g=some true) (hd:Nat.blt d F.m=true) :
 yi P F ops a o ⟨some d,.binOp .sub T xo yo yt,ty,pos,af,g⟩ d (.d (.v (.int .i64 (p-q)))):=.bin hx hy (λ_ _ _ h1 h2=>xG.Q1 h1 h2 h0.1 h0.2) hg hd
theorem yi.mul (hx:z' a xo=some (.d (.v (.int .i64 p)))) (hy:z' a yo=some (.d (.v (.int .i64 q)))) (h0:-9223372036854775808<=p*q/\p*q<=9223372036854775807) (hg:Cc ops a g=some true) (hd:Nat.blt d F.m=true) :
 yi P F ops a o ⟨some d,.binOp .mul T xo yo yt,ty,pos,af,g⟩ d (.d (.v (.int .i64 (p*q)))):=.bin hx hy (λ_ _ _ h1 h2=>xG.QX h1 h2 h0.1 h0.2) hg hd
theorem yi.quo (hx:z' a xo=some (.d (.v (.int .i64 p)))) (hy:z' a yo=some (.d (.v (.int .i64 q)))) (h0:0<=p/\p<=9223372036854775807/\0<q) (hg:Cc ops a g=some true) (hd:Nat.blt d F.m=true) :
 yi P F ops a o ⟨some d,.binOp .quo T xo yo yt,ty,pos,af,g⟩ d (.d (.v (.int .i64 (p / q)))):=.bin hx hy (λ_ _ _ h1 h2=>xG.QB h1 h2 h0.1 h0.2.1 h0.2.2) hg hd
theorem yi.rem (hx:z' a xo=some (.d (.v (.int .i64 p)))) (hy:z' a yo=some (.d (.v (.int .i64 q)))) (h0:0<=p/\0<q) (hg:Cc ops a g=some true) (hd:Nat.blt d F.m=true) :
 yi P F ops a o ⟨some d,.binOp .rem T xo yo yt,ty,pos,af,g⟩ d (.d (.v (.int .i64 (p % q)))):=.bin hx hy (λ_ _ _ h1 h2=>xG.J5 h1 h2 h0.1 h0.2) hg hd
theorem yi.cvI {src dst:TypeId}{kk:IntKind}(hx:z' a xo=some (.d (.v (.int kk p)))) (hc:Bz P src dst=some .i64) (h0:-9223372036854775808<=p/\p<=9223372036854775807) (hg:Cc ops a g=some true) (hd:Nat.blt d F.m=true) :
 yi P F ops a o ⟨some d,.convert src dst xo,ty,pos,af,g⟩ d (.d (.v (.int .i64 p))):=.run hg hd λρ h S L cz=>⟨_,xG.GI hc (bR cz hx) h0.1 h0.2,bh (h:=h)⟩
theorem yi.cvU {src dst:TypeId}{kk:IntKind}(hx:z' a xo=some (.d (.v (.int kk p)))) (hc:Bz P src dst=some .u64) (h0:0<=p/\p<=18446744073709551615) (hg:Cc ops a g=some true) (hd:Nat.blt d F.m=true) :
 yi P F ops a o ⟨some d,.convert src dst xo,ty,pos,af,g⟩ d (.d (.v (.int .u64 p))):=.run hg hd λρ h S L cz=>⟨_,xG.GH hc (bR cz hx) h0.1 h0.2,bh (h:=h)⟩
theorem yi.cat {s t:LB}(hx:z' a xo=some (.d (.v (.string ⟨⟨s⟩⟩)))) (hy:z' a yo=some (.d (.v (.string ⟨⟨t⟩⟩)))) (hb:s.length+t.length<=9223372036854775807) (hg:Cc ops a g=some true) (hd:Nat.blt d F.m=true) :
 yi P F ops a o ⟨some d,.binOp .add T xo yo yt,ty,pos,af,g⟩ d (.d (.v (.string ⟨(s++t).toArray⟩))):=.run hg hd λρ h S L cz=>⟨_,xG.b1x (bR cz hx) (bR cz hy) hb,bh (h:=h)⟩
def Nh (k:Nat):LO->Option LO
 |[]=>some []
 |(t,x)::r=>match Nh k r with
  |some r'=>match x with
   |.row j=>bif Nat.beq j k then some ((t,.any)::r') else some ((t,.row j)::r')
   |.CJ l j=>bif Nat.beq j k then some ((t,.any)::r') else some ((t,.CJ l j)::r')
   |x=>some ((t,x)::r')
  |none=>none
def a2n (k:Nat):List A->Option (List A)
 |[]=>some []
 |x::r=>match a2n k r with
  |some r'=>match x with
   |.row j=>bif Nat.beq j k then some (.any::r') else some (.row j::r')
   |.CJ l j=>bif Nat.beq j k then some (.any::r') else some (.CJ l j::r')
   |x=>some (x::r')
  |none=>none
def Ng (k:Nat):LQ->Option LQ
 |[]=>some []
 |(i,e)::r=>match Ng k r with
  |some r'=>bif Nat.beq i k then none else match e with
   |.var t cs=>match a2n k cs with
    |some Da=>some ((i,.var t Da)::r')
    |none=>none
   |.F3 v t d=>bif Nat.beq v k then none else some ((i,.F3 v t d)::r')
   |e=>some ((i,e)::r')
  |none=>none
theorem jV (ρ:Ac) {k i:Nat}(h:i≠k) (aa:OA) (c n:Nat):(ρ.yI k aa c n).b i=ρ.b i/\(ρ.yI k aa c n).a i=ρ.a i/\(ρ.yI k aa c n).c i=ρ.c i/\(ρ.yI k aa c n).n i=ρ.n i:=by simp [Ac.yI,h]
section
variable {ρ:Ac}{h:Part}{k:Nat}{aa:OA}{c nn:Nat}
theorem fZ {x:A}{v:Value}(hx:∀ j,x=.row j->j≠k) (Yu:∀ l j,x=.CJ l j->j≠k) (q:zN ρ h x v):zN (ρ.yI k aa c nn) h x v:=by
 cases x with
 |CJ l j=>obtain⟨_,e1,e2,e3⟩:=jV ρ (Yu l j U) aa c nn;simp only [zN] at q |-;rw [e1,e2,e3];exact q
 |d d=>exact q
 |mp i=>exact q
 |own i f=>exact q
 |row j=>obtain⟨_,e1,e2,e3⟩:=jV ρ (hx j U) aa c nn;simp only [zN] at q |-;rw [e1,e2,e3];exact q
 |any=>trivial
theorem mK:∀ {a a':LO},Nh k a=some a'->∀ {t:Nat}{x:A},BF a' t=some x->∃ y,BF a t=some y/\∀ v,zN ρ h y v->zN (ρ.yI k aa c nn) h x v
 |[],a',e,t,x,hx=>by cases e;cases hx
 |(i,y)::r,a',e,t,x,hx=>by
  simp only [Nh] at e;split at e
  ·rename_i r' hr;have ih:=mK hr (t:=t) (x:=x);simp only [BF];have key:∀ z,(∀ v,zN ρ h y v->zN (ρ.yI k aa c nn) h z v)->a'=(i,z)::r'->∃ w,(bif Nat.beq i t then some y else BF r t)=some w/\∀ v,zN ρ h w v->zN (ρ.yI k aa c nn) h x v:=λz hz ha=>by
    subst ha;simp only [BF] at hx;exact m44
   split at e
   ·rename_i j;cases hb:Nat.beq j k with
    |true=>rw [hb,cond_true] at e;exact key .any (λv hv=>trivial) (by simpa using e.symm)
    |false =>
     rw [hb,cond_false] at e;exact key _ (λv hv=>fZ (λj' e'=>by cases e';intro e2;subst e2;simp at hb) (λ_ _ e'=>by cases e') hv) (by simpa using e.symm)
   ·rename_i l j;cases hb:Nat.beq j k with
    |true=>rw [hb,cond_true] at e;exact key .any (λv hv=>trivial) (by simpa using e.symm)
    |false =>
     rw [hb,cond_false] at e;exact key _ (λv hv=>fZ (λ_ e'=>by cases e') (λl' j' e'=>by cases e';intro e2;subst e2;simp at hb) hv) (by simpa using e.symm)
   ·rename_i D5 TY;exact key _ (λv hv=>fZ (λj' e'=>absurd e' (D5 j')) (λl' j' e'=>absurd e' (TY l' j')) hv) (by simpa using e.symm)
  ·cases e
theorem Rh:∀ {l l':List A}{cs:LV},a2n k l=some l'->yZ ρ h l cs->yZ (ρ.yI k aa c nn) h l' cs
 |[],l',cs,e,hd=>by cases e;exact hd
 |y::r,l',cs,e,⟨v,t,e2,h1,h2,h3⟩=>by
  simp only [a2n] at e;split at e
  ·rename_i r' hr;have ih:=Rh hr h3;split at e
   ·rename_i j;cases hb:Nat.beq j k with
    |true=>rw [hb,cond_true] at e;cases e;exact⟨v,t,e2,h1,trivial,ih⟩
    |false =>
     rw [hb,cond_false] at e;cases e;exact⟨v,t,e2,h1,fZ (λj' e'=>by cases e';intro e2;subst e2;simp at hb) (λ_ _ e'=>by cases e') h2,ih⟩
   ·rename_i l j;cases hb:Nat.beq j k with
    |true=>rw [hb,cond_true] at e;cases e;exact⟨v,t,e2,h1,trivial,ih⟩
    |false =>
     rw [hb,cond_false] at e;cases e;exact⟨v,t,e2,h1,fZ (λ_ e'=>by cases e') (λl' j' e'=>by cases e';intro e2;subst e2;simp at hb) h2,ih⟩
   ·rename_i D5 TY;cases e;exact⟨v,t,e2,h1,fZ (λj' e'=>absurd e' (D5 j')) (λl' j' e'=>absurd e' (TY l' j')) h2,ih⟩
  ·cases e
theorem mJ:∀ {o o':LQ}{L:LE},Ng k o=some o'->Bi ρ h o L->Bi (ρ.yI k aa c nn) h o' L
 |[],o',L,e,hd=>by cases e;exact hd
 |(i,y)::r,o',L,e,⟨x,L',e2,h1,h2⟩=>by
  simp only [Ng] at e;split at e
  ·rename_i r' hr;have ih:=mJ hr h2;cases hb:Nat.beq i k with
   |true=>rw [hb] at e;cases e
   |false =>
    rw [hb,cond_false] at e;have hik:i≠k:=λe2=>by subst e2;simp at hb
    obtain⟨q1,q2,q3,q4⟩:=jV ρ hik aa c nn;split at e
    ·split at e<;>cases e;rename_i Da Dk;obtain⟨vs,h3,h4⟩:=h1;exact⟨x,L',e2,⟨vs,by rw [q1];exact h3,Rh Dk h4⟩,ih⟩
    ·rename_i v t d;cases hv:Nat.beq v k with
     |true=>rw [hv] at e;cases e
     |false =>
      rw [hv,cond_false] at e;cases e;have hvk:v≠k:=λe2=>by subst e2;simp at hv
      obtain⟨w1,w2,w3,w4⟩:=jV ρ hvk aa c nn;obtain⟨xs,sz,h3,h4,h5⟩:=h1;exact⟨x,L',e2,⟨xs,sz,by rw [w2,w3,w4];exact h3,by rw [w4];exact h4,by rw [w4];exact h5⟩,ih⟩
    ·rename_i D5 TY;cases e;refine⟨x,L',e2,?_,ih⟩;cases y with
     |var t cs=>exact absurd U (D5 t cs)
     |F3 v t d=>exact absurd U (TY v t d)
     |Fo v b=>exact h1
     |set es=>exact h1
     |B1 t d=>obtain⟨vs,h3,h4⟩:=h1;exact⟨vs,by rw [q1];exact h3,h4⟩
     |row t d=>obtain⟨xs,sz,h3,h4,h5⟩:=h1;exact⟨xs,sz,by rw [q2,q3,q4];exact h3,by rw [q4];exact h4,by rw [q4];exact h5⟩
  ·cases e
end
structure Kd (α:Type):Type 1 where
 f:List α->D
 R:DI α
 sz:Nat
 mono:CF R
 row:∀ {l h s n xs},J2 h (f l) s n xs<->s=sz/\n=l.length/\yl R sz h xs l
 den:∀ {l h v},Den (f l) h v<->∃ a c,v=.slice a l.length c/\A3 R sz h a c l
def kB:Kd UInt8:=⟨.bs,DJ,1,inferInstance,Ew,AU⟩
def kN:Kd Nd:=⟨.AX,B9,5,inferInstance,Ew,dy⟩
def kS {α:Type}(sz:Nat) (enc:α->List D):Kd α:=⟨.sl sz enc,IW enc,sz,inferInstance,Ew,iN⟩
theorem a3k (K:Kd α) {k e bytes:Nat}{l1 l2:List α}{d2:D}{ρ:Ac}{h:Part}{S:AH}{L:LE}(cz:Cz P ρ h a1 o1 S L) (hx:z' a1 xo=some (.row k)) (hk:BH o1 k=some (.row e (K.f l1))) (hy:z' a1 yo=some (.d d2)) (Lh:B5 P T d2=K.f l2) (hT:Cy (Tb.ap P) T=some (e,K.sz,bytes))
 (hb:(l1.length+l2.length)*bytes<=140737488355328) (GF:Nat.blt 0 bytes=true) (hja:Nh k a1=some a') (hjo:Ng k (D9 o1 k)=some o') (hd:Nat.blt d F.m=true)
 (kk:Al P F ops n x rest ((d,.row k)::a') ((k,.row e (K.f (l1++l2)))::o')) :
 JL (F.fr P) ops (up P n) (λi=>up P (x i)) (⟨some d,.call { callee:=.builtin .append,args:=#[xo,yo],argTypes:=#[T,T] },ty,pos,af,none⟩::rest) S h L:=by
 obtain⟨v,h1,h2⟩:=bv cz hx;cases h2;obtain⟨w,h3,h4⟩:=bv cz hy;have h5:=gz (P:=P) (T:=T) h w h4;rw [Lh] at h5;obtain⟨a2,c2,rfl,hR⟩:=K.den.1 h5;obtain⟨y,L',hD,⟨xs,sz,rfl,Mk,NA⟩,hr⟩:=cz.o.get hk;obtain⟨rfl,hn,hc⟩:=K.row.1 Mk;have:=K.mono;refine JL.append (Tb.UM hT) h1 h3 hc hn hR U hD hb hd GF (λaN cN xsN YJ YL=>?_);have CL:Bi (ρ.yI k aN cN (l1++l2).length) h ((k,.row e (K.f (l1++l2)))::o') (.row aN cN e K.sz (l1++l2).length xsN::L'):=by
  have en:(ρ.yI k aN cN (l1++l2).length).n k=(l1++l2).length:=by simp [Ac.yI]
  refine⟨_,L',U,⟨xsN,K.sz,by simp [Ac.yI],?_,by rw [en];exact YL⟩,mJ hjo hr⟩;rw [en];exact K.row.2 ⟨U,U,YJ⟩
 refine kk.k (ρ.yI k aN cN (l1++l2).length) h _ _ (cF (u:=.row k) ⟨cz.t,λt x hx=>?_,CL⟩ (by simp [Ac.yI,zN]) d);obtain⟨y,g1,g2⟩:=mK hja hx;obtain⟨v,g3,g4⟩:=cz.s t y g1;exact⟨v,g3,g2 v g4⟩
theorem Ap (K:Kd α) {k e bytes:Nat}{l1 l2:List α}{d2:D}(hp:E4 (EA a [yo]) a o=some (a1,o1)) (hx:z' a1 xo=some (.row k)) (hk:BH o1 k=some (.row e (K.f l1))) (hy:z' a1 yo=some (.d d2)) (Lh:B5 P T d2=K.f l2) (hT:Cy (Tb.ap P) T=some (e,K.sz,bytes))
 (hb:(l1.length+l2.length)*bytes<=140737488355328) (GF:Nat.blt 0 bytes=true) (hja:Nh k a1=some a') (hjo:Ng k (D9 o1 k)=some o') (hd:Nat.blt d F.m=true)
 (kk:Al P F ops n x rest ((d,.row k)::a') ((k,.row e (K.f (l1++l2)))::o')) :
 Al P F ops n x (⟨some d,.call { callee:=.builtin .append,args:=#[xo,yo],argTypes:=#[T,T] },ty,pos,af,none⟩::rest) a o:=.mk λρ h S L cz ac w s=>by
 obtain⟨h',L',hle,zt,BG⟩:=dp hp cz s.ok;exact a3k K BG hx hk hy Lh hT hb GF hja hjo hd kk ac w (s.with zt)
theorem Ap0 (K:Kd α) {k e bytes:Nat}{l2:List α}{d2:D}(hp:E4 (EA a [yo]) a o=some (a1,o1)) (hx:z' a1 xo=some (.d (.v (.slice none 0 0)))) (hk:Cr a1 o1=some k) (hy:z' a1 yo=some (.d d2)) (Lh:B5 P T d2=K.f l2) (hT:Cy (Tb.ap P) T=some (e,K.sz,bytes))
 (hb:l2.length*bytes<=140737488355328) (GF:Nat.blt 0 bytes=true) (hd:Nat.blt d F.m=true)
 (kk:Al P F ops n x rest ((d,.row k)::a1) ((k,.row e (K.f l2))::o1)) :
 Al P F ops n x (⟨some d,.call { callee:=.builtin .append,args:=#[xo,yo],argTypes:=#[T,T] },ty,pos,af,none⟩::rest) a o:=.mk λρ h S L cz ac w s=>by
 obtain⟨h',L',hle,zt,BG⟩:=dp hp cz s.ok;have h1:=bR BG hx;obtain⟨w2,h3,h4⟩:=bv BG hy;have h5:=gz (P:=P) (T:=T) h' w2 h4;rw [Lh] at h5;obtain⟨a2,c2,rfl,hR⟩:=K.den.1 h5;have:=K.mono;refine JL.own (L':=.row none 0 e K.sz 0 []::L') (λ_ hw=>hw.CQ e K.sz) ?_ ac w (s.with zt);refine JL.append (l:=[]) (Tb.UM hT) h1 h3 bQ U hR U .here (by simpa using hb) hd GF (λaN cN xsN YJ YL=>?_);have Mp:=BG.eqv hk (ρ.E' k aN cN l2.length);simp only [xP] at YJ YL |-;have CL:Bi (ρ.yI k aN cN l2.length) h' ((k,.row e (K.f l2))::o1) (.row aN cN e K.sz l2.length xsN::L'):=by
  have en:(ρ.yI k aN cN l2.length).n k=l2.length:=by simp [Ac.yI]
  refine⟨_,L',U,⟨xsN,K.sz,by simp [Ac.yI],?_,by rw [en];exact YL⟩,Mp.o⟩;rw [en];exact K.row.2 ⟨U,U,YJ⟩
 exact kk.k (ρ.yI k aN cN l2.length) h' _ _ (cF (u:=.row k) ⟨Mp.t,Mp.s,CL⟩ (by simp [Ac.yI,zN]) d)
theorem Rn (K:Kd α) (t e:Nat) {k:Nat}{c:Code}(hx:BF a t=some (.d (.v (.slice none 0 0)))) (hk:Cr a o=some k) (kk:JD P F c n x ((t,.row k)::a) ((k,.row e (K.f []))::o)):JD P F c n x a o:=.mk λρ h S L cz=>by
 have h1:look S t=some (.slice none 0 0):=bR (y:=.tmp t) cz hx;refine J.own (L':=.row none 0 e K.sz 0 []::L) (λ_ hw=>hw.CQ e K.sz) ?_;have c':=cz.eqv hk (ρ.E' k none 0 0);refine kk.k (ρ.yI k none 0 0) h _ _ ⟨c'.t,λu y hy=>?_,_,L,U,⟨[],K.sz,by simp [Ac.yI],?_,by simp [Ac.yI]⟩,c'.o⟩
 ·simp only [BF] at hy;cases hq:Nat.beq t u with
  |true =>
   obtain rfl:=am hq;simp only [hq,cond_true,au] at hy;subst hy;exact⟨_,h1,by simp [zN,Ac.yI]⟩
  |false=>simp only [hq,cond_false] at hy;exact c'.s u y hy
 ·exact K.row.2 ⟨U,by simp [Ac.yI],bQ⟩
theorem yi.KY (K:Kd α) {e bytes:Nat}{l2:List α}{d2:D}(hx:z' a xo=some (.d (.v (.slice none 0 0)))) (hy:z' a yo=some (.d d2)) (Lh:B5 P T d2=K.f l2) (hT:Cy (Tb.ap P) T=some (e,K.sz,bytes))
 (hb:l2.length*bytes<=140737488355328) (GF:Nat.blt 0 bytes=true) (hd:Nat.blt d F.m=true) :
 yi P F ops a o ⟨some d,.call { callee:=.builtin .append,args:=#[xo,yo],argTypes:=#[T,T] },ty,pos,af,none⟩ d (.d (K.f l2)):=λρ h S L L' Lr p cz N X rest k=>by
 have h1:=bR cz hx;obtain⟨w2,h3,h4⟩:=bv cz hy;have h5:=gz (P:=P) (T:=T) h w2 h4;rw [Lh] at h5;obtain⟨a2,c2,rfl,hR⟩:=K.den.1 h5;have:=K.mono;refine JL.own (L':=.row none 0 e K.sz 0 []::L) (λ_ hw=>hw.CQ e K.sz) ?_;refine JL.append (l:=[]) (Tb.UM hT) h1 h3 bQ U hR U .here (by simpa using hb) hd GF (λaN cN xsN YJ YL=>?_);simp only [xP] at YJ YL |-
 exact JL.LZ .here YJ U YL (λh' hle hS=>k _ h' hle (K.den.2 ⟨_,_,U,hS⟩))
end
theorem pe:prog.follows .mixedOrders=true:=by kernel_rfl
def uzD:D->Value
 |.v u=>u
 |.bq b=>.bool b
 |_=>.nilIface
def smD:D->Bool
 |.v u=>u.oneCell'
 |.bq _=>true
 |_=>false
theorem F2:∀ {ds:List D},ds.all smD=true->∀ h:Part,yp ds h (ds.map uzD)
 |[],_,h=>.n
 |d::r,e,h=>by
  simp only [ya,xB] at e;obtain⟨e1,e2⟩:=e;cases d with
  |v u=>exact .c e1 bh (F2 e2 h)
  |bq b=>exact .c U a2P (F2 e2 h)
  |_=>cases e1
theorem It:∀ d,(none:Option D)=some d->∀ h:Part,Den d h (.slice none 0 0):=λ_ e=>by cases e
theorem fTb:∀ d,some (D.bs [])=some d->∀ h:Part,Den d h (.slice none 0 0):=λ_ e=>by cases e;exact λ_=>kK
theorem fTn:∀ d,some (D.AX [])=some d->∀ h:Part,Den d h (.slice none 0 0):=λ_ e=>by cases e;exact λ_=>lR
theorem K8 {sz:Nat}{enc:α->List D}:∀ d,some (D.sl sz enc [])=some d->∀ h:Part,Den d h (.slice none 0 0):=λ_ e=>by cases e;exact λ_=>eY
def zs_:List (Nat×List D):=[(3,[.v (.int .i64 0)]),(22,[.v (.slice none 0 0)]),(28,[.v (.string ⟨⟨[]⟩⟩),.bq false,.v (.slice none 0 0),.v (.slice none 0 0),.v (.slice none 0 0),.v (.slice none 0 0)]),(33,[.v (.int .i64 0),.v (.int .i64 0),.bq false,.v (.slice none 0 0),.v (.slice none 0 0)]),(34,[.v (.int .i64 0)]),(36,[.v (.int .i64 0),.v (.int .i64 0)]),(52,[.v (.slice none 0 0),.v (.slice none 0 0),.v (.slice none 0 0)]),(55,[.v (.slice none 0 0),.v (.int .i64 0),.v (.slice none 0 0),.v (.slice none 0 0),.v (.int .i64 0),.v (.int .i64 0),.v (.slice none 0 0),.v (.slice none 0 0),.v (.slice none 0 0),.v (.slice none 0 0),.v (.slice none 0 0)]),(59,[.v (.int .i64 0),.v (.slice none 0 0),.v (.int .i64 0),.v (.int .i64 0),.v (.slice none 0 0),.v (.slice none 0 0)]),(62,[.v (.slice none 0 0),.v (.slice none 0 0),.v (.slice none 0 0),.v (.int .i64 0),.v (.slice none 0 0),.v (.slice none 0 0),.v (.slice none 0 0)]),(67,[.v (.string ⟨⟨[]⟩⟩),.v (.slice none 0 0)]),(125,[.v (.slice none 0 0),.v (.int .i64 0)]),(132,[.v (.int .i64 0),.bq false]),(147,[.v (.string ⟨⟨[]⟩⟩),.bq false,.v (.slice none 0 0)]),(156,[.v (.slice none 0 0),.v (.int .i64 0)]),(206,[.v (.int .i64 0),.v (.int .i64 0)]),(230,[.v (.slice none 0 0),.v (.int .i64 0),.v (.int .i64 0),.bq false,.v (.slice none 0 0),.v (.slice none 0 0)]),(237,[.v (.string ⟨⟨[]⟩⟩),.v (.int .i64 0),.v (.string ⟨⟨[]⟩⟩)]),(247,[.bq false,.bq false,.v (.int .i64 0),.bq false,.v (.int .i64 0),.v (.slice none 0 0),.v (.slice none 0 0)]),(256,[.v (.slice none 0 0)]),(287,[.v (.int .u8 0),.v (.int .u8 0),.v (.int .u8 0),.v (.int .u8 0),.v (.int .u8 0),.v (.int .u8 0),.v (.int .u8 0),.v (.int .u8 0),.v (.int .u8 0),.v (.int .u8 0),.v (.int .u8 0),.v (.int .u8 0),.v (.int .u8 0),.v (.int .u8 0),.v (.int .u8 0),.v (.int .u8 0),.v (.int .u8 0),.v (.int .u8 0),.v (.int .u8 0),.v (.int .u8 0)]),(289,[.v (.int .i64 0)]),(339,[.bq false,.bq false,.v (.int .i64 0),.bq false,.v (.int .i64 0),.v (.slice none 0 0),.v (.slice none 0 0)])]
theorem a7D:L6 (λx=>∃ zs,CH prog x.1=some zs/\∀ h,yp x.2 h zs) zs_:=.cons ⟨_,by kernel_rfl,F2 U⟩ <| .cons ⟨_,by kernel_rfl,F2 rfl⟩ <| .cons ⟨_,by kernel_rfl,F2 rfl⟩ <| .cons ⟨_,by kernel_rfl,F2 rfl⟩ <| .cons ⟨_,by kernel_rfl,F2 rfl⟩ <| .cons ⟨_,by kernel_rfl,F2 rfl⟩ <| .cons ⟨_,by kernel_rfl,F2 rfl⟩ <| .cons ⟨_,by kernel_rfl,F2 rfl⟩ <| .cons ⟨_,by kernel_rfl,F2 rfl⟩ <| .cons ⟨_,by kernel_rfl,F2 rfl⟩ <| .cons ⟨_,by kernel_rfl,F2 rfl⟩ <| .cons ⟨_,by kernel_rfl,F2 rfl⟩ <| .cons ⟨_,by kernel_rfl,F2 rfl⟩ <| .cons ⟨_,by kernel_rfl,F2 rfl⟩ <| .cons ⟨_,by kernel_rfl,F2 rfl⟩ <| .cons ⟨_,by kernel_rfl,F2 rfl⟩ <| .cons ⟨_,by kernel_rfl,F2 rfl⟩ <| .cons ⟨_,by kernel_rfl,F2 rfl⟩ <| .cons ⟨_,by kernel_rfl,F2 rfl⟩ <| .cons ⟨_,by kernel_rfl,F2 rfl⟩ <| .cons ⟨_,by kernel_rfl,F2 rfl⟩ <| .cons ⟨_,by kernel_rfl,F2 rfl⟩ <| .cons ⟨_,by kernel_rfl,F2 rfl⟩ <| .nil
def fs_:List (Nat×(List D->Option D)):=[(33,Pq),(36,Ml),(147,Pp),(237,Pr),(28,EX [none,none,some (.bs []),some (.sl 11 BU.enc []),some (.sl 6 Cl.enc []),some (.sl 7 Sg.enc [])]),(52,EX [some (.sl 1 Ie []),some (.sl 1 Ie []),some (.sl 1 Ie [])]),(55,EX [some (.sl 1 Ie []),none,some (.sl 3 At.enc []),some (.sl 3 At.enc []),none,none,some (.sl 1 Ie []),some (.sl 1 Ie []),some (.sl 1 Ie []),some (.sl 3 Xt.enc []),some (.bs [])]),(59,EX [none,some (.sl 3 At.enc []),none,none,some (.sl 2 Gn.enc []),some (.bs [])]),(62,EX [some (.sl 3 At.enc []),some (.sl 1 Ie []),some (.bs []),none,some (.sl 2 Fe.enc []),some (.bs []),some (.sl 2 Fe.enc [])]),(67,EX [none,some (.sl 1 bE [])]),(125,EX [some (.bs []),none]),(132,EX [none,none]),(156,EX [some (.sl 1 Ie []),none]),(230,EX [some (.bs []),none,none,none,some (.bs []),some (.AX [])]),(247,EX [none,none,none,none,none,some (.sl 1 Fj []),some (.bs [])]),(339,EX [none,none,none,none,none,some (.sl 1 Fj []),some (.bs [])])]
theorem a9a:L6 (λx=>ID x.2) fs_:=.cons Ud <| .cons x_ <| .cons Uc <| .cons Ue <| .cons (dH (.cons It <| .cons It <| .cons fTb <| .cons K8 <| .cons K8 <| .cons K8 <| .nil)) <| .cons (dH (.cons K8 <| .cons K8 <| .cons K8 <| .nil)) <| .cons (dH (.cons K8 <| .cons It <| .cons K8 <| .cons K8 <| .cons It <| .cons It <| .cons K8 <| .cons K8 <| .cons K8 <| .cons K8 <| .cons fTb <| .nil)) <| .cons (dH (.cons It <| .cons K8 <| .cons It <| .cons It <| .cons K8 <| .cons fTb <| .nil)) <| .cons (dH (.cons K8 <| .cons K8 <| .cons fTb <| .cons It <| .cons K8 <| .cons fTb <| .cons K8 <| .nil)) <| .cons (dH (.cons It <| .cons K8 <| .nil)) <| .cons (dH (.cons fTb <| .cons It <| .nil)) <| .cons (dH (.cons It <| .cons It <| .nil)) <| .cons (dH (.cons K8 <| .cons It <| .nil)) <| .cons (dH (.cons fTb <| .cons It <| .cons It <| .cons It <| .cons fTb <| .cons fTn <| .nil)) <| .cons (dH (.cons It <| .cons It <| .cons It <| .cons It <| .cons It <| .cons K8 <| .cons fTb <| .nil)) <| .cons (dH (.cons It <| .cons It <| .cons It <| .cons It <| .cons It <| .cons K8 <| .cons fTb <| .nil)) <| .nil
def ps_:List (Nat×List (Nat×Nat)):=[(28,[(0,1),(1,1),(2,1),(3,1),(4,1),(5,1)]),(33,[(0,1),(1,1),(2,1),(3,1),(4,1)]),(36,[(0,1),(1,1)]),(52,[(0,1),(1,1),(2,1)]),(55,[(0,1),(1,1),(2,1),(3,1),(4,1),(5,1),(6,3),(9,1),(10,1)]),(59,[(0,1),(1,1),(2,1),(3,1),(4,1),(5,1)]),(62,[(0,1),(1,1),(2,1),(3,1),(4,1),(5,1),(6,1)]),(67,[(0,1),(1,1)]),(125,[(0,1),(1,1)]),(132,[(0,1),(1,1)]),(147,[(0,1),(1,1),(2,1)]),(156,[(0,1),(1,1)]),(206,[(0,2)]),(230,[(0,1),(1,5)]),(237,[(0,1),(1,1),(2,1)]),(247,[(0,1),(1,1),(2,1),(3,1),(4,1),(5,1),(6,1)]),(289,[(0,1)]),(339,[(0,1),(1,1),(2,1),(3,1),(4,1),(5,1),(6,1)])]
theorem a8d:L6 (λx=>∃ zs ds,OO prog x.1=some (zs,x.2)/\HZ zs_ x.1=some ds/\∀ h,yp ds h zs) ps_:=.cons ⟨_,_,by kernel_rfl,U,F2 U⟩ <| .cons ⟨_,_,by kernel_rfl,rfl,F2 rfl⟩ <| .cons ⟨_,_,by kernel_rfl,rfl,F2 rfl⟩ <| .cons ⟨_,_,by kernel_rfl,rfl,F2 rfl⟩ <| .cons ⟨_,_,by kernel_rfl,rfl,F2 rfl⟩ <| .cons ⟨_,_,by kernel_rfl,rfl,F2 rfl⟩ <| .cons ⟨_,_,by kernel_rfl,rfl,F2 rfl⟩ <| .cons ⟨_,_,by kernel_rfl,rfl,F2 rfl⟩ <| .cons ⟨_,_,by kernel_rfl,rfl,F2 rfl⟩ <| .cons ⟨_,_,by kernel_rfl,rfl,F2 rfl⟩ <| .cons ⟨_,_,by kernel_rfl,rfl,F2 rfl⟩ <| .cons ⟨_,_,by kernel_rfl,rfl,F2 rfl⟩ <| .cons ⟨_,_,by kernel_rfl,rfl,F2 rfl⟩ <| .cons ⟨_,_,by kernel_rfl,rfl,F2 rfl⟩ <| .cons ⟨_,_,by kernel_rfl,rfl,F2 rfl⟩ <| .cons ⟨_,_,by kernel_rfl,rfl,F2 rfl⟩ <| .cons ⟨_,_,by kernel_rfl,rfl,F2 rfl⟩ <| .cons ⟨_,_,by kernel_rfl,rfl,F2 rfl⟩ <| .nil
def nl_:List (Nat×D):=[(22,.bs []),(24,.sl 11 BU.enc []),(25,.sl 6 Cl.enc []),(26,.sl 7 Sg.enc []),(31,.AX []),(49,.sl 1 Ie []),(50,.sl 3 At.enc []),(53,.sl 3 Xt.enc []),(57,.sl 2 Gn.enc []),(60,.sl 2 Fe.enc []),(65,.sl 1 bE []),(245,.sl 1 Fj []),(256,.sl 1 KD [])]
theorem a8p:L6 (λx=>∀ h,Den x.2 h (.slice none 0 0)) nl_:=.cons (λ_=>kK) <| .cons (λ_=>eY) <| .cons (λ_=>eY) <| .cons (λ_=>eY) <| .cons (λ_=>lR) <| .cons (λ_=>eY) <| .cons (λ_=>eY) <| .cons (λ_=>eY) <| .cons (λ_=>eY) <| .cons (λ_=>eY) <| .cons (λ_=>eY) <| .cons (λ_=>eY) <| .cons (λ_=>eY) <| .nil
instance tb_:Tb prog where
 T:=D_
 mono:=D_.mono
 ag:=[(2,none),(3,none),(4,none),(5,none),(9,none),(22,none),(24,none),(25,none),(26,none),(28,some 6),(31,none),(33,some 5),(34,none),(36,some 2),(49,none),(50,none),(52,some 3),(53,none),(55,some 11),(57,none),(59,some 6),(60,none),(62,some 7),(65,none),(67,some 2),(103,none),(105,none),(108,none),(125,some 2),(132,some 2),(147,some 3),(156,some 2),(206,some 2),(213,none),(230,some 6),(237,some 3),(245,none),(247,some 7),(256,none),(278,none),(287,some 20),(289,some 1),(339,some 7)]
 hag:=by kernel_rfl
 zr:=HZ zs_
 hzr:=λh=>jy a7D h
 lt:=Y9
 yJ:=Y8
 fo t ds:=match HZ fs_ t with
  |some f=>f ds
  |none=>none
 J_:=λ{t ds d} e=>by
  cases hf:HZ fs_ t with
  |none=>rw [hf] at e;cases e
  |some f=>rw [hf] at e;exact jy a9a hf e
 st:=[9]
 DW:=by kernel_rfl
 bt:=[4]
 hbt:=by kernel_rfl
 ap:=[(22,5,1,1),(24,55,11,216),(25,59,6,96),(26,62,7,152),(31,33,5,72),(49,278,1,4),(50,237,3,40),(53,147,3,48),(57,156,2,32),(60,67,2,40),(65,22,1,24),(227,230,6,96),(235,3,1,8),(245,9,1,16),(256,213,1,8)]
 hap:=by kernel_rfl
 pl:=HZ ps_
 Le:=λe1 e2=>by
  obtain⟨zs,ds,h1,h2,h3⟩:=jy a8d e1;rw [h2] at e2;cases e2;exact⟨zs,h1,h3⟩
 nl:=HZ nl_
 hnl:=λe=>jy a8p e
class Cn (P:Program) (Fi:Nat) (T:outParam Prop):Prop where
 c:T
section
variable {f:Fr}{n:yF}{x:Nat->yF}{S:AH}{h:Part}{L:LE}{ops:Array Oper}{rest:LR}{d F:Nat}{ty:TypeId}{pos:String}{af:Array Edge}
theorem JL.a6Q {R:Value->Part->Prop}{args:LV}{os:List Operand}{fo:Operand}(hF:yH f.P F=true) (hf:ev S fo=some (.func (.func F) #[] #[])) (ha:FY S os=some args) (c:F1 f.P F args h R) (hd:Nat.blt d f.m=true) (k:∀ v h',h.le h'->R v h'->JL f ops n x rest ((d,v)::S) h' L) :
 JL f ops n x (⟨some d,.call { callee:=.value fo,args:=os.toArray,argTypes:=ts },ty,pos,af,none⟩::rest) S h L :=
 JL.a4b (R:=Cb λu h' Lo=>Lo=[]/\R u h') (Li:=[]) (Lr:=L) hF hf ha (by have:=c;unfold F1 at this;simpa using this) .nil hd (λ_ _ ⟨_,hh,_⟩=>by cases hh) (λ_ _ _ _ ⟨_,hh,_⟩=>by cases hh) (λv h' Lo hle ⟨_,hh,h1,h2⟩=>by cases hh;subst h1;exact k v h' hle h2)
end
section
variable {f:Fr}{n:yF}{x:Nat->yF}{S:AH}{h:Part}{L:LE}{ops:Array Oper}{rest:LR}{d F:Nat}{ty:TypeId}{pos:String}{af:Array Edge}{q:Op}{xo yo:Operand}
theorem JL.guarded {j dj:Nat}{b:Bool}(hj:(ops[j]?).bind (·.dst)=some dj) (hs:look S dj=some (.bool b)) (k:JL f ops n x (⟨some d,q,ty,pos,af,none⟩::rest) S h L):JL f ops n x (⟨some d,q,ty,pos,af,some (j,b)⟩::rest) S h L:=λa w s=>by
 have k1:=k a w s;unfold wpList at k1 |-
 rw [xD (by simp [Region.wanted])] at k1;rw [xD (by simp [Region.wanted,cZ s hj hs])];exact k1
theorem xG.max {T T':TypeId}{p q:Int}{k:IntKind}(hx:ev S xo=some (.int k p)) (hy:ev S yo=some (.int k q)):xG f S h L (.call { callee:=.builtin .max,args:=#[xo,yo],argTypes:=#[T,T'] }) ty (.int k (max p q)):=λa w s _ _ _ _=>by
 have e:(if p<q then q else p)=Max.max p q:=by split<;>omega
 simp [execOp,resolve,s.eval hx,s.eval hy,invoke,builtin,Builtin.max_,Builtin.max2,e]
end
variable{xo:Operand}
section
variable {P:Program} [Tb P] {F:Fd}{n:y_}{x:Nat->y_}{a a1 b Au:LO}{o o1 ob:LQ}{ops:Array Oper}{rest:LR}{base:Nat}{es:List Ef}
variable {d Fi:Nat}{ty:TypeId}{pos:String}{af:Array Edge}{os:Array Operand}{ts:Array TypeId}{ds:List D}{d':D}{T:Prop}{fo:Operand}
theorem yi.Sx (hf:z' a fo=some (.d (.v (.func (.func Fi) #[] #[])))) (ha:Be P a os.toList ts.toList=some ds) (c:yq P Fi ds d') (hF:yH P Fi=true) (hd:Nat.blt d F.m=true) :
 yi P F ops a o ⟨some d,.call { callee:=.value fo,args:=os,argTypes:=ts },ty,pos,af,none⟩ d (.d d'):=λρ h S L L' Lr p cz N X rest k=>by
 obtain⟨vs,h3,h4⟩:=cL cz ha;obtain⟨os⟩:=os;exact JL.a6Q hF (bR cz hf) h3 (c.fn h vs cz.t h4) hd (λv h2 zH ⟨d',h7,h8⟩=>by subst h7;exact k v h2 zH h8)
theorem yi.max {xo yo:Operand}{T T':TypeId}{p q:Int}(hx:z' a xo=some (.d (.v (.int .i64 p)))) (hy:z' a yo=some (.d (.v (.int .i64 q)))) (hd:Nat.blt d F.m=true) :
 yi P F ops a o ⟨some d,.call { callee:=.builtin .max,args:=#[xo,yo],argTypes:=#[T,T'] },ty,pos,af,none⟩ d (.d (.v (.int .i64 (max p q)))):=.run U hd λρ h S L cz=>⟨_,xG.max (bR cz hx) (bR cz hy),bh (h:=h)⟩
theorem yi.fld [CY P]{T i off:Nat}{dd:D}{l:List D}{u:D}{g:Option (Nat×Bool)}(hx:z' a xo=some (.d dd)) (_:K5 (CY.fo P) T i=some off) (hT:a6x P T i=some off) (hl:F' dd=some l) (hu:FO l off=some u) (hg:Cc ops a g=some true) (hd:Nat.blt d F.m=true):yi P F ops a o ⟨some d,.field T xo i,ty,pos,af,g⟩ d (.d u):=.run hg hd λρ h S L cz=>by
 obtain⟨v,h1,h2⟩:=bv cz hx;obtain⟨cs,rfl,h3⟩:=(eX hl).1 h2;rw [iZ] at hu;obtain⟨w,h4,_,h5⟩:=h3.nth hu;exact⟨w,xG.Z6 hT h1 h4,h5⟩
theorem CaV [c:Cn P Fi T] (hp:E4 (EA a os.toList) a o=some (a1,o1)) (hf:z' a1 fo=some (.d (.v (.func (.func Fi) #[] #[])))) (ha:Be P a1 os.toList ts.toList=some ds) (cc:T->yq P Fi ds d') (k:Al P F ops n x rest ((d,.d d')::a1) o1)
 (hF:yH P Fi=true:=by kernel_rfl) (hd:Nat.blt d F.m=true:=by rfl):Al P F ops n x (⟨some d,.call { callee:=.value fo,args:=os,argTypes:=ts },ty,pos,af,none⟩::rest) a o:=.mk λρ h S L cz ac w s=>by
 obtain⟨h',L',hle,zt,BG⟩:=dp hp cz s.ok;exact(aI (yi.Sx hf ha (cc c.c) hF hd) k).k ρ h' S L' BG ac w (s.with zt)
theorem CxV [c:Cn P Fi T] (hk:Aa (IF (fo::os.toList)) a=some Au) (hf:z' Au fo=some (.d (.v (.func (.func Fi) #[] #[])))) (ha:Be P Au os.toList ts.toList=some ds) (cc:T->yq P Fi ds d')
 (k:JX P F ops n x b ob base (IX (IF (fo::os.toList)) [] d (.d d')::es) rest ((d,.d d')::a) o) (hF:yH P Fi=true:=by kernel_rfl) (hd:Nat.blt d F.m=true:=by rfl) :
 JX P F ops n x b ob base es (⟨some d,.call { callee:=.value fo,args:=os,argTypes:=ts },ty,pos,af,none⟩::rest) a o:=JX.s1 _ hk (yi.Sx hf ha (cc c.c) hF hd) k
theorem vn {α:Type}{enc:α->List D}{sz:Nat}(h0:0<sz) {h:Part}:∀ {l:List α}{ds:List D}{vs:LV},ds=l.map (λy=>.st (enc y))->(∀ y∈l,(enc y).length=sz)->yT ds h vs->Fa (λ(y:α) (v:Value)=>v.cells.toList.length=sz/\IW enc h v.cells.toList y) l vs
 |[],ds,vs,e,_,k=>by subst e;unfold List.map yT at k;subst k;exact .nil
 |y::l,ds,vs,e,hl,k=>by
  subst e;rw [yy] at k;unfold yT at k;obtain⟨v,t,rfl,h1,h2⟩:=k;obtain⟨cs,rfl,h3⟩:=cA.1 h1;exact .cons ⟨by have:=h3.len;have:=hl y (aC ..);simp [Value.cells];omega,show yp _ h _ from h3⟩ (vn h0 U (λz hz=>hl z (aE _ hz)) h2)
theorem yi.OX {enc:α->List D}(l:List α) {T len e sz bytes:Nat}{ps:Array (Nat×Operand)}{ds Iu:List D}(hT:Cy (Tb.ap P) T=some (e,sz,bytes)) (hp:H6 a 0 ps.toList=some ds) (hf:He P e ds=some Iu) (hl:Iu=l.map (λy=>.st (enc y))) (hz:∀ y∈l,(enc y).length=sz) (h0:Nat.blt 0 sz=true) (h1:Nat.blt 0 len=true) (h2:Nat.beq len ds.length=true) (h3:Nat.ble (len*sz) 16777216=true)
 (hd:Nat.blt d F.m=true):yi P F ops a o ⟨some d,.buildSlice T len ps,ty,pos,af,none⟩ d (.d (.sl sz enc l)):=λρ h S L L' Lr p cz N X rest k=>by
 obtain⟨vs,h4,h5⟩:=ic cz hp;have h6:=vn (sz:=sz) (by simpa using h0) hl hz (jx hf h5);have e2:=am h2;have e3:=h5.len;have e4:len=vs.length:=by omega
 have e5:len*sz<=16777216:=by simpa using h3
 have g0:0<sz:=by simpa using h0
 have g1:0<len:=by simpa using h1
 have e6:=iK h6;have all:∀ {l:List α} {vs:LV},Fa (λ(y:α) (v:Value)=>v.cells.toList.length=sz/\IW enc h v.cells.toList y) l vs->∀ c∈vs,c.cells.toList.length=sz:=by
  intro l vs hh
  exact m29
 obtain⟨ps⟩:=ps;refine JL.IT vs (Tb.UM hT) h4 e4 (all h6) h3 (Nat.mul_pos g1 g0) hd (λb=>?_);have hlm:len<=140737488355328:=by
  have:len<=len*sz:=yW _ g0;omega
 exact JL.LY .here (dS h6) xE (λh' hle hS=>k _ h' hle (by rw [e4,e6];exact(iN (h:=h')).2 ⟨_,_,U,hS⟩))
end
section
variable {P:Program} [Tb P] {F:Fd}{n:y_}{x:Nat->y_}{a a1 b Au:LO}{o o1 ob:LQ}{ops:Array Oper}{rest:LR}{base:Nat}{es:List Ef}
variable {d Fi:Nat}{ty:TypeId}{pos:String}{af:Array Edge}{g:Option (Nat×Bool)}{os:Array Operand}{ts:Array TypeId}{ds:List D}{d':D}{T:Prop}
theorem CaI [c:Cn P Fi T] (hp:E4 (EA a os.toList) a o=some (a1,o1)) (ha:Be P a1 os.toList ts.toList=some ds) (cc:T->yq P Fi ds d') (k:Al P F ops n x rest ((d,.d d')::a1) o1)
 (hF:yH P Fi=true:=by kernel_rfl) (hg:Ub ops a1 g=some true:=by rfl) (hd:Nat.blt d F.m=true:=by rfl) :
 Al P F ops n x (⟨some d,.call { callee:=.value (.func Fi),args:=os,argTypes:=ts },ty,pos,af,g⟩::rest) a o:=Ca hp ha (cc c.c) k hF hg hd
theorem CaB [c:Cn P Fi T] (ha:Be P a os.toList ts.toList=some ds) (cc:T->yq P Fi ds d') (hg:Cc ops a g=some true) (k:Al P F ops n x rest ((d,.d d')::a) o) (hF:yH P Fi=true:=by kernel_rfl) (hd:Nat.blt d F.m=true:=by rfl) :
 Al P F ops n x (⟨some d,.call { callee:=.value (.func Fi),args:=os,argTypes:=ts },ty,pos,af,g⟩::rest) a o:=aI (yi.call ha (cc c.c) hF hg hd) k
theorem CxI [c:Cn P Fi T] (hk:Aa (PS ops (.call { callee:=.value (.func Fi),args:=os,argTypes:=ts }) g) a=some Au) (ha:Be P Au os.toList ts.toList=some ds) (cc:T->yq P Fi ds d')
 (k:JX P F ops n x b ob base (IX (PS ops (.call { callee:=.value (.func Fi),args:=os,argTypes:=ts }) g) [] d (.d d')::es) rest ((d,.d d')::a) o)
 (hF:yH P Fi=true:=by kernel_rfl) (hg:Cc ops Au g=some true:=by rfl) (hd:Nat.blt d F.m=true:=by rfl) :
 JX P F ops n x b ob base es (⟨some d,.call { callee:=.value (.func Fi),args:=os,argTypes:=ts },ty,pos,af,g⟩::rest) a o:=Cx hk ha (cc c.c) k hF hg hd
end
section
variable {P:Program} [Tb P] {F:Fd}{n:y_}{x:Nat->y_}{a b:LO}{o ob:LQ}{ops:Array Oper}{l rest:LR}{base:Nat}{es:List Ef}{c:Code}
variable {dd:Option Nat}{ty T T2:TypeId}{pos:String}{af:Array Edge}{g:Option (Nat×Bool)}{os:Array Operand}{ts:Array TypeId}{y z:Operand}{lo hi mx':Option Operand}{bo:BinOp}
theorem KJ (k:JD P F c n x a o):JD P F c n x a o:=k
theorem KL (k:Al P F ops n x l a o):Al P F ops n x l a o:=k
theorem KX (k:JX P F ops n x b ob base es l a o):JX P F ops n x b ob base es l a o:=k
theorem a0n {v:Operand}(k:Al P F ops n x (⟨dd,.call { callee:=.value v,args:=os,argTypes:=ts },ty,pos,af,g⟩::rest) a o):Al P F ops n x (⟨dd,.call { callee:=.value v,args:=os,argTypes:=ts },ty,pos,af,g⟩::rest) a o:=k
theorem KAp (k:Al P F ops n x (⟨dd,.call { callee:=.builtin .append,args:=os,argTypes:=ts },ty,pos,af,g⟩::rest) a o):Al P F ops n x (⟨dd,.call { callee:=.builtin .append,args:=os,argTypes:=ts },ty,pos,af,g⟩::rest) a o:=k
theorem KFd {i:Nat}(k:Al P F ops n x (⟨dd,.field T y i,ty,pos,af,g⟩::rest) a o):Al P F ops n x (⟨dd,.field T y i,ty,pos,af,g⟩::rest) a o:=k
theorem KMx (k:Al P F ops n x (⟨dd,.call { callee:=.builtin .max,args:=os,argTypes:=ts },ty,pos,af,g⟩::rest) a o):Al P F ops n x (⟨dd,.call { callee:=.builtin .max,args:=os,argTypes:=ts },ty,pos,af,g⟩::rest) a o:=k
theorem KIx (k:Al P F ops n x (⟨dd,.indexAddr T y z,ty,pos,af,g⟩::rest) a o):Al P F ops n x (⟨dd,.indexAddr T y z,ty,pos,af,g⟩::rest) a o:=k
theorem KCv (k:Al P F ops n x (⟨dd,.convert T T2 y,ty,pos,af,g⟩::rest) a o):Al P F ops n x (⟨dd,.convert T T2 y,ty,pos,af,g⟩::rest) a o:=k
theorem KSl (k:Al P F ops n x (⟨dd,.slice T y lo hi mx',ty,pos,af,g⟩::rest) a o):Al P F ops n x (⟨dd,.slice T y lo hi mx',ty,pos,af,g⟩::rest) a o:=k
theorem a9M (k:Al P F ops n x (⟨dd,.binOp bo T y z T2,ty,pos,af,g⟩::rest) a o):Al P F ops n x (⟨dd,.binOp bo T y z T2,ty,pos,af,g⟩::rest) a o:=k
end
theorem x8 (b:Bool):decide ((if b=true then(0:Int) else 20)=0)=b:=by cases b<;>rfl
variable{p:Prop}
theorem De (h:p:=by first|omega|(simp only [aw,aF,ay];omega)|decide):p:=h
theorem i3_ (h:p:=by intro h;first|assumption|(apply h<;>(first|assumption|omega|(simp only [Nd.yP,Nd.sz,aF,aw,ay];omega)))):p:=h
theorem UX (h:p:=by exact(zk xE).symm):p:=h
structure Rm:Prop where
theorem ApR (_:Rm) {α:Type}(K:Kd α) {P:Program} [Tb P] {F:Fd}{n:y_}{x:Nat->y_}{a a1:LO}{o o1:LQ}{ops:Array Oper}{rest:LR}{d T k e bytes:Nat}{ty:TypeId}{pos:String}{af:Array Edge}{xo yo:Operand}{l2:List α}{d2:D}(hp:E4 (EA a [yo]) a o=some (a1,o1)) (hx:z' a1 xo=some (.d (.v (.slice none 0 0)))) (hk:Cr a1 o1=some k) (hy:z' a1 yo=some (.d d2)) (Lh:B5 P T d2=K.f l2) (hT:Cy (Tb.ap P) T=some (e,K.sz,bytes))
 (hb:l2.length*bytes<=140737488355328) (GF:Nat.blt 0 bytes=true) (hd:Nat.blt d F.m=true)
 (kk:Al P F ops n x rest ((d,.row k)::a1) ((k,.row e (K.f l2))::o1)) :
 Al P F ops n x (⟨some d,.call { callee:=.builtin .append,args:=#[xo,yo],argTypes:=#[T,T] },ty,pos,af,none⟩::rest) a o:=Ap0 K hp hx hk hy Lh hT hb GF hd kk
structure Tg (q:Prop):Prop where
 k:q
theorem W {p q:Prop}(k:q) (h:Tg q->p:=by
 intro k
 repeat (first
  |(refine KL ?_;first
   |refine Al.nil ?_
   |refine R3 rfl rfl ?_
   |(refine a0n ?_;first|refine CaI rfl rfl i3_ ?_|refine Ca rfl rfl zL ?_|refine CaV rfl rfl rfl i3_ ?_|refine aI (yi.call rfl zL cq rfl rfl) ?_|refine CaB rfl i3_ rfl ?_)
   |(refine KFd ?_;refine aI (yi.fld rfl rfl cq rfl rfl rfl rfl) ?_)
   |(refine KMx ?_;refine aI (yi.max rfl rfl rfl) ?_)
   |(refine KIx ?_;first|refine aI (yi.V1 _ rfl rfl rfl rfl (ew rfl) De rfl rfl) ?_|refine aI (yi.ix _ rfl rfl rfl rfl (ew rfl) De rfl rfl) ?_|refine aI (yi.V2 _ rfl rfl rfl rfl (ew rfl) De rfl rfl) ?_|refine aI (yi.V1 _ rfl rfl rfl rfl rfl De rfl rfl) ?_|refine aI (yi.ix _ rfl rfl rfl rfl rfl De rfl rfl) ?_|refine aI (yi.V2 _ rfl rfl rfl rfl rfl De rfl rfl) ?_|refine aI (yi.V1 (Int.toNat _) rfl rfl rfl rfl UX De rfl rfl) ?_|refine aI (yi.ix (Int.toNat _) rfl rfl rfl rfl UX De rfl rfl) ?_|refine aI (yi.V2 (Int.toNat _) rfl rfl rfl rfl UX De rfl rfl) ?_)
   |(refine KCv ?_;first|refine aI (yi.cvI rfl (by decide +kernel) xE rfl rfl) ?_|refine aI (yi.cvU rfl (by decide +kernel) xE rfl rfl) ?_|refine aI (yi.MT rfl cq rfl rfl) ?_|refine aI (yi.bytes rfl cq De rfl) ?_)
   |(refine KSl ?_;first|refine aI (yi.Z1 _ rfl rfl rfl rfl rfl De rfl rfl) ?_|refine aI (yi.Z0 _ rfl rfl rfl rfl rfl De rfl rfl) ?_)
   |(refine a9M ?_;first|refine aI (yi.add rfl rfl xE rfl rfl) ?_|refine aI (yi.sub rfl rfl xE rfl rfl) ?_|refine aI (yi.quo rfl rfl xE rfl rfl) ?_|refine aI (yi.rem rfl rfl xE rfl rfl) ?_|refine aI (yi.cat rfl rfl De rfl rfl) ?_)
   |(refine KAp ?_;first|refine ApR zL kB rfl rfl rfl rfl rfl rfl De rfl rfl ?_|refine ApR zL kN rfl rfl rfl rfl rfl rfl De rfl rfl ?_|refine ApR zL (kS _ _) rfl rfl rfl rfl rfl rfl De rfl rfl ?_|refine aI (yi.KY kB rfl rfl rfl rfl De rfl rfl) ?_|refine aI (yi.KY kN rfl rfl rfl rfl De rfl rfl) ?_|refine Ap kN rfl rfl rfl rfl rfl rfl De rfl rfl rfl rfl ?_|refine Ap kB rfl rfl rfl rfl rfl rfl De rfl rfl rfl rfl ?_|refine Ap (kS _ _) rfl rfl rfl rfl rfl rfl De rfl rfl rfl rfl ?_))
   |refine aI (yi.pk rfl rfl rfl) ?_
   |refine aI (yi.no rfl rfl) ?_
   |refine aI (yi.FJ rfl rfl rfl) ?_
  |(refine KJ ?_;first
   |refine JD.seq ?_
   |refine JD.region ?_
   |refine Xg pe rfl rfl rfl ?_
   |refine JD.skip ?_
   |refine JD.block ?_
   |refine JD.exit ?_
   |refine Ct rfl ?_
   |refine Cf rfl ?_
   |refine Cqt rfl ?_
   |refine Cqf rfl ?_)
  |(refine KX ?_;first
   |refine bI rfl ?_
   |refine HA rfl rfl ?_
   |refine CxI rfl rfl i3_ ?_
   |refine Cx rfl rfl zL ?_
   |refine CxV rfl rfl rfl i3_ ?_
   |refine bm rfl (yi.V1 _ rfl rfl rfl rfl (ew rfl) De rfl rfl) ?_
   |refine bm rfl (yi.ix _ rfl rfl rfl rfl (ew rfl) De rfl rfl) ?_
   |refine bm rfl (yi.V2 _ rfl rfl rfl rfl (ew rfl) De rfl rfl) ?_
   |refine bm rfl (yi.V1 _ rfl rfl rfl rfl rfl De rfl rfl) ?_
   |refine bm rfl (yi.ix _ rfl rfl rfl rfl rfl De rfl rfl) ?_
   |refine bm rfl (yi.V2 _ rfl rfl rfl rfl rfl De rfl rfl) ?_
   |refine bm rfl (yi.V1 (Int.toNat _) rfl rfl rfl rfl UX De rfl rfl) ?_
   |refine bm rfl (yi.ix (Int.toNat _) rfl rfl rfl rfl UX De rfl rfl) ?_
   |refine bm rfl (yi.V2 (Int.toNat _) rfl rfl rfl rfl UX De rfl rfl) ?_
   |refine bm rfl (yi.MT rfl cq rfl rfl) ?_
   |refine bm rfl (yi.bytes rfl cq De rfl) ?_
   |refine bm rfl (yi.fld rfl rfl cq rfl rfl rfl rfl) ?_
   |refine bm rfl (yi.pk rfl rfl rfl) ?_
   |refine bm rfl (yi.no rfl rfl) ?_
   |refine JX.s2r rfl rfl rfl rfl rfl rfl ?_
   |refine bm rfl (yi.FJ rfl rfl rfl) ?_
   |refine bm rfl (yi.add rfl rfl xE rfl rfl) ?_
   |refine bm rfl (yi.sub rfl rfl xE rfl rfl) ?_
   |refine bm rfl (yi.cvI rfl (by decide +kernel) xE rfl rfl) ?_
   |refine bm rfl (yi.cvU rfl (by decide +kernel) xE rfl rfl) ?_
   |refine bm rfl (yi.KY kB rfl rfl rfl rfl De rfl rfl) ?_
   |refine bm rfl (yi.KY kN rfl rfl rfl rfl De rfl rfl) ?_))
 exact k.k):p:=h ⟨k⟩
theorem Z (h:p:=by
 repeat' (first
  |(refine KL ?_;first
   |refine Al.nil ?_
   |refine R3 rfl rfl ?_
   |(refine a0n ?_;first|refine CaI rfl rfl i3_ ?_|refine Ca rfl rfl zL ?_|refine CaV rfl rfl rfl i3_ ?_|refine aI (yi.call rfl zL cq rfl rfl) ?_|refine CaB rfl i3_ rfl ?_)
   |(refine KFd ?_;refine aI (yi.fld rfl rfl cq rfl rfl rfl rfl) ?_)
   |(refine KMx ?_;refine aI (yi.max rfl rfl rfl) ?_)
   |(refine KIx ?_;first|refine aI (yi.V1 _ rfl rfl rfl rfl (ew rfl) De rfl rfl) ?_|refine aI (yi.ix _ rfl rfl rfl rfl (ew rfl) De rfl rfl) ?_|refine aI (yi.V2 _ rfl rfl rfl rfl (ew rfl) De rfl rfl) ?_|refine aI (yi.V1 _ rfl rfl rfl rfl rfl De rfl rfl) ?_|refine aI (yi.ix _ rfl rfl rfl rfl rfl De rfl rfl) ?_|refine aI (yi.V2 _ rfl rfl rfl rfl rfl De rfl rfl) ?_|refine aI (yi.V1 (Int.toNat _) rfl rfl rfl rfl UX De rfl rfl) ?_|refine aI (yi.ix (Int.toNat _) rfl rfl rfl rfl UX De rfl rfl) ?_|refine aI (yi.V2 (Int.toNat _) rfl rfl rfl rfl UX De rfl rfl) ?_)
   |(refine KCv ?_;first|refine aI (yi.cvI rfl (by decide +kernel) xE rfl rfl) ?_|refine aI (yi.cvU rfl (by decide +kernel) xE rfl rfl) ?_|refine aI (yi.MT rfl cq rfl rfl) ?_|refine aI (yi.bytes rfl cq De rfl) ?_)
   |(refine KSl ?_;first|refine aI (yi.Z1 _ rfl rfl rfl rfl rfl De rfl rfl) ?_|refine aI (yi.Z0 _ rfl rfl rfl rfl rfl De rfl rfl) ?_)
   |(refine a9M ?_;first|refine aI (yi.add rfl rfl xE rfl rfl) ?_|refine aI (yi.sub rfl rfl xE rfl rfl) ?_|refine aI (yi.quo rfl rfl xE rfl rfl) ?_|refine aI (yi.rem rfl rfl xE rfl rfl) ?_|refine aI (yi.cat rfl rfl De rfl rfl) ?_)
   |(refine KAp ?_;first|refine aI (yi.KY kB rfl rfl rfl rfl De rfl rfl) ?_|refine aI (yi.KY kN rfl rfl rfl rfl De rfl rfl) ?_|refine Ap kN rfl rfl rfl rfl rfl rfl De rfl rfl rfl rfl ?_|refine Ap kB rfl rfl rfl rfl rfl rfl De rfl rfl rfl rfl ?_|refine Ap (kS _ _) rfl rfl rfl rfl rfl rfl De rfl rfl rfl rfl ?_)
   |refine aI (yi.pk rfl rfl rfl) ?_
   |refine aI (yi.no rfl rfl) ?_
   |refine aI (yi.FJ rfl rfl rfl) ?_
   |refine Bg rfl rfl (λ_=>?_) (λ_=>?_)
   |refine Bp rfl (λ_=>?_) (λ_=>?_))
  |(refine KJ ?_;first
   |refine JD.seq ?_
   |refine JD.region ?_
   |refine Xg pe rfl rfl rfl ?_
   |refine JD.skip ?_
   |refine JD.block ?_
   |refine JD.exit ?_
   |refine Ct rfl ?_
   |refine Cf rfl ?_
   |refine Cqt rfl ?_
   |refine Cqf rfl ?_
   |refine Rt rfl rfl ?_
   |refine Ci rfl (λ_=>?_) (λ_=>?_))
  |(refine KX ?_;first
   |refine bI rfl ?_
   |refine HA rfl rfl ?_
   |refine CxI rfl rfl i3_ ?_
   |refine Cx rfl rfl zL ?_
   |refine CxV rfl rfl rfl i3_ ?_
   |refine bm rfl (yi.V1 _ rfl rfl rfl rfl (ew rfl) De rfl rfl) ?_
   |refine bm rfl (yi.ix _ rfl rfl rfl rfl (ew rfl) De rfl rfl) ?_
   |refine bm rfl (yi.V2 _ rfl rfl rfl rfl (ew rfl) De rfl rfl) ?_
   |refine bm rfl (yi.V1 _ rfl rfl rfl rfl rfl De rfl rfl) ?_
   |refine bm rfl (yi.ix _ rfl rfl rfl rfl rfl De rfl rfl) ?_
   |refine bm rfl (yi.V2 _ rfl rfl rfl rfl rfl De rfl rfl) ?_
   |refine bm rfl (yi.V1 (Int.toNat _) rfl rfl rfl rfl UX De rfl rfl) ?_
   |refine bm rfl (yi.ix (Int.toNat _) rfl rfl rfl rfl UX De rfl rfl) ?_
   |refine bm rfl (yi.V2 (Int.toNat _) rfl rfl rfl rfl UX De rfl rfl) ?_
   |refine bm rfl (yi.MT rfl cq rfl rfl) ?_
   |refine bm rfl (yi.bytes rfl cq De rfl) ?_
   |refine bm rfl (yi.fld rfl rfl cq rfl rfl rfl rfl) ?_
   |refine bm rfl (yi.pk rfl rfl rfl) ?_
   |refine bm rfl (yi.no rfl rfl) ?_
   |refine JX.s2r rfl rfl rfl rfl rfl rfl ?_
   |refine bm rfl (yi.FJ rfl rfl rfl) ?_
   |refine bm rfl (yi.add rfl rfl xE rfl rfl) ?_
   |refine bm rfl (yi.sub rfl rfl xE rfl rfl) ?_
   |refine bm rfl (yi.cvI rfl (by decide +kernel) xE rfl rfl) ?_
   |refine bm rfl (yi.cvU rfl (by decide +kernel) xE rfl rfl) ?_
   |refine bm rfl (yi.KY kB rfl rfl rfl rfl De rfl rfl) ?_
   |refine bm rfl (yi.KY kN rfl rfl rfl rfl De rfl rfl) ?_)
  |rfl
  |(simp only [yR,B5,x8];done)
  |(simp only [yR,B5,x8, *,if_true,if_false,bg];done)
  |(simp [yR,B5,x8, *];done)
  |(simp only [yR,B5,x8];split<;>first|rfl|(simp_all;done)|(exfalso;simp_all;omega))
  |(simp_all [yR,B5,x8];done)
  |(simp_all [yR,B5,x8];omega))):p:=h
def arV (P:Program) (T:Nat):Option Nat :=
 match P.underlying T with
 |some (.array n e)=>match AF P e with
  |some none=>some n
  |_=>none
 |_=>none
theorem xG.a69 {f:Fr}{T ty:TypeId}{xo yo:Operand}{cs:LV}{len m:Nat}{k:IntKind}{i:Int}{v:Value}(hT:arV f.P T=some len) (hx:ev S xo=some (.agg cs.toArray)) (hy:ev S yo=some (.int k i)) (hi:i=(m:Int)) (h1:m<len) (hv:cs[m]?=some v) :
 xG f S h L (.index T xo yo) ty v:=λa w s _ _ _ _=>by
 subst hi;unfold arV at hT;split at hT<;>try cases hT
 rename_i n e hu;split at hT<;>cases hT;rename_i ha;have h0:(0:Int)<=m:=by omega
 have h2:=eP ha w;have h3:cs.toArray[m]?=some v:=by simpa using hv
 simp only [execOp,s.eval hx,s.eval hy,Instr.index,asIntOf,AW,Result.andThen,run_underlying hu,Sem.run_pure,part,h2];simp [h0,h1,h2,hv,part,Result.andThen]
theorem rv:∀ (vs A Z:LV),Z.length=vs.length->IL (A++Z) (EC A.length vs)=A++vs
 |[],A,Z,h=>by
  obtain rfl:=xI h;rfl
 |v::r,A,[],h=>by cases h
 |v::r,A,z::Z,h=>by
  simp only [EC,IL];have e:(A++z::Z).set A.length v=(A++[v])++Z:=by simp
  have ih:=rv r (A++[v]) Z (by simpa using h);rw [e];simpa using ih
def allI:List D->Bool
 |[]=>true
 |.v (.int _ _)::r=>allI r
 |_=>false
theorem SG {h:Part}:∀ {ds:List D}{vs:LV},allI ds=true->yT ds h vs->yp ds h vs/\vs.all (·.oneCell')=true
 |[],vs,_,k=>by unfold yT at k;subst k;exact⟨by unfold yp;rfl,U⟩
 |.v (.int kk i)::r,vs,e,k=>by
  unfold yT at k;obtain⟨v,t,rfl,h1,h2⟩:=k;obtain⟨h3,h4⟩:=SG (ds:=r) e h2;have hv:=cY.1 h1;subst hv;exact⟨by unfold yp;exact⟨_,t,U,U,h1,h3⟩,by simpa [Value.oneCell'] using h4⟩
section
variable {P:Program} [Tb P] {F:Fd}{a:LO}{o:LQ}{ops:Array Oper}{d T:Nat}{ty:TypeId}{pos:String}{af:Array Edge}{g:Option (Nat×Bool)}{xo yo:Operand}
theorem yi.bAr {ps:Array (Nat×Operand)}{ds:List D}{zs:LV}(hT:arZ P T=some (zs,1)) (hp:H6 a 0 ps.toList=some ds) (ha:allI ds=true) (hl:Nat.beq zs.length ds.length=true) (hg:Cc ops a g=some true) (hd:Nat.blt d F.m=true) :
 yi P F ops a o ⟨some d,.build T ps,ty,pos,af,g⟩ d (.d (.st ds)):=.run hg hd λρ h S L cz=>by
 obtain⟨vs,h1,h2⟩:=ic cz hp;obtain⟨h3,h4⟩:=SG ha h2;have h5:=h2.len;have h6:zs.length=vs.length:=by have:=am hl;omega
 obtain⟨ps⟩:=ps;have key:∀ (vs:LV) (k n:Nat),vs.all (·.oneCell')=true->k+vs.length<=n->((EC k vs).all λp=>p.2.oneCell'&&Nat.blt p.1 n)=true:=by
  intro vs
  induction vs with
  |nil=>intro k n _ _;rfl
  |cons v r ih =>
   intro k n hv hk;simp only [ya,xB,aw] at hv hk;simp only [EC,ya,xB];exact⟨⟨hv.1,by simp;omega⟩,ih (k+1) n hv.2 xE⟩
 have h7:=rv vs [] zs h6;simp only [xP,ay] at h7;exact⟨_,xG.I2 hT h1 (key vs 0 _ h4 xE) h7,(cA (h:=h)).2 ⟨_,U,h3⟩⟩
theorem vN {h:Part}:∀ {ds:List D}{vs:LV}{m:Nat}{d:D},yp ds h vs->FO ds m=some d->∃ v,vs[m]?=some v/\Den d h v
 |[],vs,m,d,_,e=>by cases m<;>cases e
 |y::r,vs,0,d,k,e=>by
  unfold yp at k;obtain⟨v,t,rfl,h1,h2,h3⟩:=k;simp only [FO,au] at e;subst e;exact⟨v,U,h2⟩
 |y::r,vs,m+1,d,k,e=>by
  unfold yp at k;obtain⟨v,t,rfl,h1,h2,h3⟩:=k;obtain⟨v',h4,h5⟩:=vN (m:=m) h3 e;exact⟨v',by simpa using h4,h5⟩
theorem yi.b0v {l:List D}{kk:IntKind}{i:Int}{len:Nat}{d':D}(m:Nat) (hT:arV P T=some len) (hx:z' a xo=some (.d (.st l))) (hy:z' a yo=some (.d (.v (.int kk i)))) (hi:i=(m:Int)) (hm:Nat.blt m len=true) (hn:FO l m=some d') (hg:Cc ops a g=some true) (hd:Nat.blt d F.m=true) :
 yi P F ops a o ⟨some d,.index T xo yo,ty,pos,af,g⟩ d (.d d'):=.run hg hd λρ h S L cz=>by
 obtain⟨v,h1,h2⟩:=bv cz hx;obtain⟨cs,rfl,h3⟩:=(cA (h:=h)).1 h2;obtain⟨w,h4,h5⟩:=vN h3 hn;exact⟨w,xG.a69 hT h1 (bR cz hy) hi (by simpa using hm) h4,h5⟩
abbrev d_:=@yi.b0v
end
structure FnW (P:Program) [Tb P] (Fi e:Nat) {α:Type} (K:Kd α) (l1:List α) (ds:List D) (l2:List α):Prop where
 fn:∀ h a c xs vs,Tb.T P h->yl K.R K.sz h xs l1->l1.length<=140737488355328->yT ds h vs->Fn P Fi (.slice a l1.length c::vs) h [.row a c e K.sz l1.length xs] (Cb λv h' Lo=>∃ a' c' Kq,v=.slice a' l2.length c'/\Lo=[.row a' c' e K.sz l2.length Kq]/\yl K.R K.sz h' Kq l2/\l2.length<=140737488355328)
section
variable {P:Program} [Tb P] {F:Fd}{n:y_}{x:Nat->y_}{a a1 a':LO}{o o1 o':LQ}{ops:Array Oper}{rest:LR}
variable {d Fi e t0 k:Nat}{ty:TypeId}{pos:String}{af:Array Edge}{av:Array Operand}{os:List Operand}{ts:Array TypeId}{tl:List Nat}{ds:List D}{xo:Operand}
theorem Cw {K:Kd α}{l1 l2:List α}(Mf:av.toList=xo::os) (hp:E4 (EA a os) a o=some (a1,o1)) (hx:z' a1 xo=some (.row k)) (hk:BH o1 k=some (.row e (K.f l1))) (ha:Be P a1 os ts.toList.tail=some ds) (c:FnW P Fi e K l1 ds l2)
 (hja:Nh k a1=some a') (hjo:Ng k (D9 o1 k)=some o') (kk:Al P F ops n x rest ((d,.row k)::a') ((k,.row e (K.f l2))::o')) (hF:yH P Fi=true:=by kernel_rfl) (hd:Nat.blt d F.m=true:=by rfl) :
 Al P F ops n x (⟨some d,.call { callee:=.value (.func Fi),args:=av,argTypes:=ts },ty,pos,af,none⟩::rest) a o:=.mk λρ h S L cz ac w s=>by
 obtain⟨h',L',hle,zt,BG⟩:=dp hp cz s.ok;obtain⟨v,h1,h2⟩:=bv BG hx;cases h2;obtain⟨vs,h3,h4⟩:=cL BG ha;obtain⟨y,L2,hD,⟨xs,sz,rfl,Mk,NA⟩,hr⟩:=BG.o.get hk;obtain⟨rfl,hn,hc⟩:=K.row.1 Mk;have:=K.mono;have he:FY S (xo::os)=some (.slice (ρ.a k) (ρ.n k) (ρ.c k)::vs):=by simp only [FY,h1,h3]
 obtain⟨av⟩:=av;simp only at Mf;subst Mf;have cc:=c.fn h' (ρ.a k) (ρ.c k) xs vs BG.t hc xE h4;rw [<- hn] at cc;refine cI hF he cc (.cons hD .nil) hd (λv h2 Lo zH ⟨a2,c2,Mv,e1,e2,e3,e4⟩=>?_) ac w (s.with zt);subst e1 e2;have CL:Bi (ρ.yI k a2 c2 l2.length) h2 ((k,.row e (K.f l2))::o') ([.row a2 c2 e K.sz l2.length Mv]++L2):=by
  have en:(ρ.yI k a2 c2 l2.length).n k=l2.length:=by simp [Ac.yI]
  refine⟨_,L2,U,⟨Mv,K.sz,by simp [Ac.yI],?_,by rw [en];exact e4⟩,mJ hjo (hr.mono zH)⟩;rw [en];exact K.row.2 ⟨U,U,e3⟩
 have czm:=BG.mono zH;refine kk.k (ρ.yI k a2 c2 l2.length) h2 _ _ (cF (u:=.row k) ⟨czm.t,λt x hx=>?_,CL⟩ (by simp [Ac.yI,zN]) d);obtain⟨y,g1,g2⟩:=mK hja hx;obtain⟨v,g3,g4⟩:=czm.s t y g1;exact⟨v,g3,g2 v g4⟩
theorem Cw0 {K:Kd α}{l2:List α}(Mf:av.toList=xo::os) (hp:E4 (EA a os) a o=some (a1,o1)) (hx:z' a1 xo=some (.d (.v (.slice none 0 0)))) (hk:Cr a1 o1=some k) (ha:Be P a1 os ts.toList.tail=some ds) (c:FnW P Fi e K [] ds l2)
 (kk:Al P F ops n x rest ((d,.row k)::a1) ((k,.row e (K.f l2))::o1)) (hF:yH P Fi=true:=by kernel_rfl) (hd:Nat.blt d F.m=true:=by rfl) :
 Al P F ops n x (⟨some d,.call { callee:=.value (.func Fi),args:=av,argTypes:=ts },ty,pos,af,none⟩::rest) a o:=.mk λρ h S L cz ac w s=>by
 obtain⟨h',L',hle,zt,BG⟩:=dp hp cz s.ok;have h1:=bR BG hx;obtain⟨vs,h3,h4⟩:=cL BG ha;have:=K.mono;have he:FY S (xo::os)=some (.slice none 0 0::vs):=by simp only [FY,h1,h3]
 obtain⟨av⟩:=av;simp only at Mf;subst Mf;have cc:=c.fn h' none 0 [] vs BG.t bQ (by simp) h4;refine JL.own (L':=.row none 0 e K.sz 0 []::L') (λ_ hw=>hw.CQ e K.sz) ?_ ac w (s.with zt);refine cI hF he cc (.cons .here .nil) hd (λv h2 Lo zH ⟨a2,c2,Mv,e1,e2,e3,e4⟩=>?_);subst e1 e2;have Mp:=(BG.mono zH).eqv hk (ρ.E' k a2 c2 l2.length);have CL:Bi (ρ.yI k a2 c2 l2.length) h2 ((k,.row e (K.f l2))::o1) ([.row a2 c2 e K.sz l2.length Mv]++L'):=by
  have en:(ρ.yI k a2 c2 l2.length).n k=l2.length:=by simp [Ac.yI]
  refine⟨_,L',U,⟨Mv,K.sz,by simp [Ac.yI],?_,by rw [en];exact e4⟩,Mp.o⟩;rw [en];exact K.row.2 ⟨U,U,e3⟩
 exact kk.k (ρ.yI k a2 c2 l2.length) h2 _ _ (cF (u:=.row k) ⟨Mp.t,Mp.s,CL⟩ (by simp [Ac.yI,zN]) d)
end
theorem cW {N Q:Int}{n least:Nat}{l:LB}(hN:N=(n:Int)) (hQ:Q=(least:Int)) (hn:n<18446744073709551616) (hl:least<=20) (hb:l.length<=70368744177664) [Tb prog] :
 FnW prog 166 5 kB l [.v (.int .u64 N),.i Q] (l++CS n least):=.mk λh a c xs vs hT hc hlen hd=>by
 obtain rfl:=yl.u8 hc;unfold yT at hd;obtain⟨v1,t1,rfl,h1,hd⟩:=hd;unfold yT at hd;obtain⟨v2,t2,rfl,h2,hd⟩:=hd;unfold yT at hd;subst hd;rw [cY.1 h1,cY.1 h2];refine(xi hN hQ hn hl hb).mono λe h' Lo _ ⟨v,he,a',c',e1,e2⟩=>⟨v,he,a',c',_,e1,e2,cJ,?_⟩;have Ku:=cG n least;simp only [aF];omega
structure FnO (P:Program) [Tb P] (Fi e:Nat) {α:Type} (K:Kd α) (ds cs:List D) (l:List α):Prop where
 fn:∀ h vs,Tb.T P h->yT ds h vs->Fn P Fi vs h [] (Cb λv h' Lo=>∃ us a c xs,v=.agg (us++[Value.slice a l.length c]).toArray/\yp cs h' us/\Lo=[.row a c e K.sz l.length xs]/\yl K.R K.sz h' xs l/\l.length<=140737488355328)
structure Jx (P:Program) [Tb P] (Fi t:Nat) (Ja:List D) (d0:D) (MF:List D) (R:D->D->Prop):Prop where
 fn:∀ h b NW L7 ML,Tb.T P h->yT Ja h L7->Den d0 h (.agg NW.toArray)->yT MF h ML->Fn P Fi (L7++.pointer (some ⟨b,0,none⟩)::ML) h [.yY b t NW] (Cb λv h' Lo=>∃ d d1 ws,R d d1/\Den d h' v/\Den d1 h' (.agg ws.toArray)/\Lo=[.yY b t ws])
def HG:OE->Option (Nat×D)
 |.B1 t d=>some (t,d)
 |.var t cs=>match Kb cs with
  |some ds=>some (t,.st ds)
  |none=>none
 |_=>none
theorem jP {k t:Nat}{e:OE}{d:D}{x:Br}(hw:HG e=some (t,d)) (q:Gl ρ h k e x):∃ vs,x=.yY (ρ.b k) t vs/\Den d h (.agg vs.toArray):=by
 unfold HG at hw;split at hw
 ·cases hw;exact q
 ·split at hw<;>cases hw;rename_i Va;obtain⟨vs,e1,e2⟩:=q;exact⟨vs,e1,(cA (h:=h)).2 ⟨vs,U,e2.ds Va⟩⟩
 ·cases hw
theorem tu {S:AH}:∀ {os1 os2:List Operand}{L7 ML:LV},FY S os1=some L7->FY S os2=some ML->FY S (os1++os2)=some (L7++ML)
 |[],os2,L7,ML,h1,h2=>by cases h1;exact h2
 |y::r,os2,L7,ML,h1,h2=>by
  simp only [FY] at h1;split at h1<;>cases h1;rename_i v vs h3 h4;simp only [xX,FY,h3,tu h4 h2]
section
variable {P:Program} [Tb P] {F:Fd}{n:y_}{x:Nat->y_}{a a1:LO}{o o1 o2:LQ}{ops:Array Oper}{rest l0:LR}
variable {d Fi e k t:Nat}{ty:TypeId}{pos:String}{af:Array Edge}{os:Array Operand}{ts:Array TypeId}{ds cs:List D}
theorem Co {K:Kd α}{l:List α}(hp:E4 (EA a os.toList) a o=some (a1,o1)) (ha:Be P a1 os.toList ts.toList=some ds) (c:FnO P Fi e K ds cs l) (hk:Cr a1 o1=some k)
 (kk:Al P F ops n x rest ((d,.CJ cs k)::a1) ((k,.row e (K.f l))::o1)) (hF:yH P Fi=true:=by kernel_rfl) (hd:Nat.blt d F.m=true:=by rfl) :
 Al P F ops n x (⟨some d,.call { callee:=.value (.func Fi),args:=os,argTypes:=ts },ty,pos,af,none⟩::rest) a o:=.mk λρ h S L cz ac w s=>by
 obtain⟨h',L',hle,zt,BG⟩:=dp hp cz s.ok;obtain⟨vs,h3,h4⟩:=cL BG ha;have:=K.mono;obtain⟨os⟩:=os;refine cI hF h3 (c.fn h' vs BG.t h4) .nil hd (λv h2 Lo zH ⟨us,a2,c2,Mv,e1,e2,e3,e4,e5⟩=>?_) ac w (s.with zt);subst e1 e3;have Mp:=(BG.mono zH).eqv hk (ρ.E' k a2 c2 l.length);have CL:Bi (ρ.yI k a2 c2 l.length) h2 ((k,.row e (K.f l))::o1) ([.row a2 c2 e K.sz l.length Mv]++L'):=by
  exact m83
 exact kk.k (ρ.yI k a2 c2 l.length) h2 _ _ (cF (u:=.CJ cs k) ⟨Mp.t,Mp.s,CL⟩ ⟨us,by simp [Ac.yI],e2⟩ d)
theorem Pb (k:Nat) {c:Code}(hp:X_ k a o=some (a1,o1)) (kk:JD P F c n x a1 o1):JD P F c n x a o:=.mk λρ h S L cz ac w s=>by
 exact m159
theorem Pl (k:Nat) (hp:X_ k a o=some (a1,o1)) (kk:Al P F ops n x l0 a1 o1):Al P F ops n x l0 a o:=.mk λρ h S L cz ac w s=>by
 exact m159
theorem Cp {R:D->D->Prop}{os1 os2:List Operand}{Ja MF:List D}{d0:D}{e0:OE}(Mf:os.toList=os1++xo::os2) (hp:E4 (EA a (os1++os2)) a o=some (a1,o1)) (hx:z' a1 xo=some (.own k 0)) (hk:BH o1 k=some e0) (he:HG e0=some (t,d0))
 (h1:Be P a1 os1 ts.toList=some Ja) (h2:Be P a1 os2 (ts.toList.drop (os1.length+1))=some MF) (c:Jx P Fi t Ja d0 MF R) (Ip:H7 o1 k=some o2)
 (kk:∀ d' d1,R d' d1->Al P F ops n x rest ((d,.d d')::a1) ((k,.B1 t d1)::o2)) (hF:yH P Fi=true:=by kernel_rfl) (hd:Nat.blt d F.m=true:=by rfl) :
 Al P F ops n x (⟨some d,.call { callee:=.value (.func Fi),args:=os,argTypes:=ts },ty,pos,af,none⟩::rest) a o:=.mk λρ h S L cz ac w s=>by
 obtain rfl:=eZ Ip;obtain⟨h',L',hle,zt,BG⟩:=dp hp cz s.ok;obtain⟨v,g1,g2⟩:=bv BG hx;cases g2;obtain⟨L7,h3,h4⟩:=cL BG h1;obtain⟨ML,h5,h6⟩:=cL BG h2;obtain⟨y,L2,hD,hE,hr⟩:=BG.o.get hk;obtain⟨NW,rfl,hd0⟩:=jP he hE;obtain⟨os⟩:=os;simp only at Mf;subst Mf;have hev:FY S (os1++xo::os2)=some (L7++.pointer (some ⟨ρ.b k,0,none⟩)::ML):=tu h3 (by simp only [FY,g1,h5]);refine cI hF hev (c.fn h' (ρ.b k) NW L7 ML BG.t h4 hd0 h6) (.cons hD .nil) hd (λv h2 Lo zH ⟨d',d1,ws,hR,e1,e2,e3⟩=>?_) ac w (s.with zt);subst e3;have czm:=BG.mono zH;have CL:Bi ρ h2 ((k,.B1 t d1)::D9 o1 k) (.yY (ρ.b k) t ws::L2):=⟨_,L2,U,⟨ws,U,e2⟩,hr.mono zH⟩;exact(kk d' d1 hR).k ρ h2 _ _ (cF (u:=.d d') ⟨czm.t,czm.s,CL⟩ e1 d)
def a4u:OE->Option (Nat×List A)
 |.var t cs=>some (t,cs)
 |.B1 t d=>match F' d with
  |some l=>match SK l with
   |some cs=>some (t,cs)
   |none=>none
  |none=>none
 |_=>none
theorem a0x {t:Nat}{e:OE}{cs:List A}{x:Br}(hv:a4u e=some (t,cs)) (q:Gl ρ h k e x):∃ vs,x=.yY (ρ.b k) t vs/\yZ ρ h cs vs:=by
 unfold a4u at hv;split at hv
 ·cases hv;exact q
 ·split at hv<;>try (cases hv;done)
  rename_i l hl;split at hv<;>cases hv;rename_i Dk;obtain⟨vs,e1,e2⟩:=q;obtain⟨ws,e3,e4⟩:=(eX hl).1 e2;have:vs=ws:=by injection e3 with e3;simpa using congrArg Array.toList e3
  subst this;exact⟨vs,e1,ij Dk e4⟩
 ·cases hv
theorem Rv (K:Kd α) (kv i e:Nat) {k t:Nat}{c:Code}{ov:OE}{cs Da:List A}(hlk:BH o kv=some ov) (hv:a4u ov=some (t,cs)) (hi:FO cs i=some (.d (.v (.slice none 0 0)))) (hk:Cr a o=some k) (hs:Oo cs i (.row k)=some Da) (hd:H7 o kv=some o1)
 (kk:JD P F c n x a ((kv,.var t Da)::(k,.row e (K.f []))::o1)):JD P F c n x a o:=.mk λρ h S L cz=>by
 obtain rfl:=eZ hd;have c':=cz.eqv hk (ρ.E' k none 0 0);obtain⟨y,L2,hD,hE,hr⟩:=c'.o.get hlk;obtain⟨vs,rfl,Dk⟩:=a0x hv hE;obtain⟨h1,rfl⟩:=su hs;obtain⟨v,h2,h3,h4⟩:=Dk.nth hi;have h5:=(cY (h:=h)).1 h4;subst h5;refine J.own (L':=.row none 0 e K.sz 0 []::L) (λ_ hw=>hw.CQ e K.sz) (J.Hx (.yY ((ρ.yI k none 0 0).b kv) t vs::.row none 0 e K.sz 0 []::L2) (.cons (.there hD) (.cons .here .all)) ?_);have Im:vs.set i (.slice none 0 0)=vs:=by
  have yJ:=(xS.1 h2).1;have hg:vs[i]=.slice none 0 0:=(xS.1 h2).2;rw [<- hg];exact List.set_getElem_self yJ
 have a8S:=Dk.set (x:=.row k) (v:=.slice none 0 0) (i:=i) U (by simp [zN,Ac.yI]);rw [Im] at a8S;have CL:Bi (ρ.yI k none 0 0) h ((kv,.var t (cs.set i (.row k)))::(k,.row e (K.f []))::D9 o kv) (.yY ((ρ.yI k none 0 0).b kv) t vs::.row none 0 e K.sz 0 []::L2) :=
  ⟨_,_,U,⟨vs,U,a8S⟩,_,_,U,⟨[],K.sz,by simp [Ac.yI],K.row.2 ⟨U,by simp [Ac.yI],bQ⟩,by simp [Ac.yI]⟩,hr⟩
 exact kk.k (ρ.yI k none 0 0) h S _ ⟨c'.t,c'.s,CL⟩
end
section
variable {P:Program} [Tb P] {F:Fd}{n:y_}{x:Nat->y_}{a b Au:LO}{o ob o':LQ}{ops:Array Oper}{rest:LR}{base:Nat}{es r:List Ef}{c:Code}
variable {d k v e bytes Fi:Nat}{ty T:TypeId}{pos:String}{af:Array Edge}{xo yo:Operand}{us:List Nat}{d2:D}{os:Array Operand}{ts:Array TypeId}{ds cs:List D}
theorem G6.app (K:Kd α) {l1 l2:List α}(HX:Aa us (aR CT b r)=some Au) (hx:z' Au xo=some (.row k)) (hk:BH (oS ob r) k=some (.row e (K.f l1))) (hy:z' Au yo=some (.d d2)) (Lh:B5 P T d2=K.f l2) (hT:Cy (Tb.ap P) T=some (e,K.sz,bytes))
 (hb:(l1.length+l2.length)*bytes<=140737488355328) (GF:Nat.blt 0 bytes=true) (hd:Nat.blt d F.m=true) :
 G6 P F ops x b ob r (a9e us d k v (.F3 v e (K.f (l1++l2)))) ⟨some d,.call { callee:=.builtin .append,args:=#[xo,yo],argTypes:=#[T,T] },ty,pos,af,none⟩:=⟨Au,HX,_,hk,λn A' O' hA hO hfr hn=>.mk λρ h S L cz=>by
 obtain⟨fA,fO⟩:=hfr v U;have cu:=cz.wk hA;obtain⟨w1,h1,h2⟩:=bv cu hx;cases h2;obtain⟨w,h3,h4⟩:=bv cu hy;have h5:=gz (P:=P) (T:=T) h w h4;rw [Lh] at h5;obtain⟨a2,c2,rfl,hR⟩:=K.den.1 h5;obtain⟨y,L',hD,⟨xs,sz,rfl,Mk,NA⟩,hr⟩:=cz.o.get hO;obtain⟨rfl,hn',hc⟩:=K.row.1 Mk;have:=K.mono;refine JL.append (Tb.UM hT) h1 h3 hc hn' hR U hD hb hd GF (λaN cN xsN YJ YL=>?_);have w:=ρ.GB v aN cN (l1++l2).length;have cf:=cz.fresh w fA fO;have en:(ρ.yI v aN cN (l1++l2).length).n v=(l1++l2).length:=by simp [Ac.yI]
 have CL:Bi (ρ.yI v aN cN (l1++l2).length) h ((k,.F3 v e (K.f (l1++l2)))::D9 O' k) (.row aN cN e K.sz (l1++l2).length xsN::L') :=
  ⟨_,L',U,⟨xsN,K.sz,by simp [Ac.yI],by rw [en];exact K.row.2 ⟨U,U,YJ⟩,by rw [en];exact YL⟩,hr.fresh w fO.del⟩
 exact aj ⟨_,_,_,cF (u:=.row v) ⟨cf.t,cf.s,CL⟩ (by simp [Ac.yI,zN]) d,hn⟩⟩
theorem G6.a9t {K:Kd α}{l:List α}(HX:Aa us (aR CT b r)=some Au) (ha:Be P Au os.toList ts.toList=some ds) (cc:FnO P Fi e K ds cs l) (hF:yH P Fi=true) (hd:Nat.blt d F.m=true) :
 G6 P F ops x b ob r (eMk us d k (.CJ cs k) (.row e (K.f l))) ⟨some d,.call { callee:=.value (.func Fi),args:=os,argTypes:=ts },ty,pos,af,none⟩:=⟨Au,HX,λn A' O' hA fA fO hn=>.mk λρ h S L cz=>by
 have cu:=cz.wk hA;obtain⟨vs,h3,h4⟩:=cL cu ha;have:=K.mono;obtain⟨os⟩:=os;refine cI hF h3 (cc.fn h vs cz.t h4) .nil hd (λv h2 Lo zH ⟨us,a2,c2,Mv,e1,e2,e3,e4,e5⟩=>?_);subst e1 e3;have cf:=(cz.mono zH).fresh (ρ.GB k a2 c2 l.length) fA fO;have en:(ρ.yI k a2 c2 l.length).n k=l.length:=by simp [Ac.yI]
 have CL:Bi (ρ.yI k a2 c2 l.length) h2 ((k,.row e (K.f l))::O') ([.row a2 c2 e K.sz l.length Mv]++L) :=
  ⟨_,L,U,⟨Mv,K.sz,by simp [Ac.yI],by rw [en];exact K.row.2 ⟨U,U,e4⟩,by rw [en];exact e5⟩,cf.o⟩
 exact aj ⟨_,_,_,cF (u:=.CJ cs k) ⟨cf.t,cf.s,CL⟩ ⟨us,by simp [Ac.yI],e2⟩ d,hn⟩⟩
theorem Kz (K:Kd α) {l1 l2:List α}(HX:Aa (IF [xo,yo]) a=some Au) (hx:z' Au xo=some (.row k)) (hk:BH o k=some (.row e (K.f l1))) (hy:z' Au yo=some (.d d2)) (Lh:B5 P T d2=K.f l2) (hT:Cy (Tb.ap P) T=some (e,K.sz,bytes)) (hv:Cr a o=some v)
 (hb:(l1.length+l2.length)*bytes<=140737488355328) (GF:Nat.blt 0 bytes=true) (hd:Nat.blt d F.m=true) (Ip:H7 o k=some o')
 (kk:JX P F ops n x b ob base (a9e (IF [xo,yo]) d k v (.F3 v e (K.f (l1++l2)))::es) rest ((d,.row v)::a) ((k,.F3 v e (K.f (l1++l2)))::o')) :
 JX P F ops n x b ob base es (⟨some d,.call { callee:=.builtin .append,args:=#[xo,yo],argTypes:=#[T,T] },ty,pos,af,none⟩::rest) a o:=by
 obtain rfl:=eZ Ip;exact JX.put (λha ho=>⟨G6.app K (by rw [<- ha];exact HX) hx (by rw [<- ho];exact hk) hy Lh hT hb GF hd,by subst ha;rfl,by subst ho;rfl⟩) kk
theorem Xco {K:Kd α}{l:List α}(HX:Aa (IF os.toList) a=some Au) (ha:Be P Au os.toList ts.toList=some ds) (cc:FnO P Fi e K ds cs l) (hv:Cr a o=some k)
 (kk:JX P F ops n x b ob base (eMk (IF os.toList) d k (.CJ cs k) (.row e (K.f l))::es) rest ((d,.CJ cs k)::a) ((k,.row e (K.f l))::o)) (hF:yH P Fi=true:=by kernel_rfl) (hd:Nat.blt d F.m=true:=by rfl) :
 JX P F ops n x b ob base es (⟨some d,.call { callee:=.value (.func Fi),args:=os,argTypes:=ts },ty,pos,af,none⟩::rest) a o :=
 JX.put (λYM ho=>⟨G6.a9t (by rw [<- YM];exact HX) ha cc hF hd,by subst YM;rfl,by subst ho;rfl⟩) kk
end
def WV (v k:Nat):LO->Option LO
 |[]=>some []
 |(t,x)::r=>match WV v k r with
  |some r'=>match x with
   |.row j=>bif Nat.beq j v then some ((t,.row k)::r') else some ((t,.row j)::r')
   |.CJ l j=>bif Nat.beq j v then some ((t,.CJ l k)::r') else some ((t,.CJ l j)::r')
   |x=>some ((t,x)::r')
  |none=>none
def a1m (v k:Nat):List A->Option (List A)
 |[]=>some []
 |x::r=>match a1m v k r with
  |some r'=>match x with
   |.row j=>bif Nat.beq j v then some (.row k::r') else some (.row j::r')
   |.CJ l j=>bif Nat.beq j v then some (.CJ l k::r') else some (.CJ l j::r')
   |x=>some (x::r')
  |none=>none
def WU (v k:Nat):LQ->Option LQ
 |[]=>some []
 |(i,e)::r=>match WU v k r with
  |some r'=>match e with
   |.var t cs=>match a1m v k cs with
    |some Da=>some ((i,.var t Da)::r')
    |none=>none
   |e=>some ((i,e)::r')
  |none=>none
section
variable {ρ:Ac}{h:Part}{v k:Nat}(q:ρ.a k=ρ.a v/\ρ.c k=ρ.c v/\ρ.n k=ρ.n v)
include q
theorem sD:∀ {a a':LO},WV v k a=some a'->∀ {t:Nat}{x:A},BF a' t=some x->∃ y,BF a t=some y/\∀ w,zN ρ h y w->zN ρ h x w
 |[],a',e,t,x,hx=>by cases e;cases hx
 |(i,y)::r,a',e,t,x,hx=>by
  simp only [WV] at e;split at e
  ·rename_i r' hr;have ih:=sD hr (t:=t) (x:=x);have key:∀ z,(∀ w,zN ρ h y w->zN ρ h z w)->a'=(i,z)::r'->∃ u,BF ((i,y)::r) t=some u/\∀ w,zN ρ h u w->zN ρ h x w:=λz hz ha=>by
    subst ha;simp only [BF] at hx |-
    exact m44
   split at e
   ·rename_i j;cases hb:Nat.beq j v with
    |true =>
     obtain rfl:=am hb;rw [hb,cond_true] at e;exact key (.row k) (λw hw=>by simp only [zN] at hw |-;rw [q.1,q.2.1,q.2.2];exact hw) (by simpa using e.symm)
    |false=>rw [hb,cond_false] at e;exact key _ (λw hw=>hw) (by simpa using e.symm)
   ·rename_i l j;cases hb:Nat.beq j v with
    |true =>
     obtain rfl:=am hb;rw [hb,cond_true] at e;exact key (.CJ l k) (λw hw=>by simp only [zN] at hw |-;rw [q.1,q.2.1,q.2.2];exact hw) (by simpa using e.symm)
    |false=>rw [hb,cond_false] at e;exact key _ (λw hw=>hw) (by simpa using e.symm)
   ·exact key _ (λw hw=>hw) (by simpa using e.symm)
  ·cases e
theorem Qr:∀ {l l':List A}{cs:LV},a1m v k l=some l'->yZ ρ h l cs->yZ ρ h l' cs
 |[],l',cs,e,hd=>by cases e;exact hd
 |y::r,l',cs,e,⟨w,t,e2,h1,h2,h3⟩=>by
  simp only [a1m] at e;split at e
  ·rename_i r' hr;have ih:=Qr hr h3;split at e
   ·rename_i j;exact m60
   ·rename_i l j;exact m60
   ·cases e;exact⟨w,t,e2,h1,h2,ih⟩
  ·cases e
theorem sC:∀ {o o':LQ}{L:LE},WU v k o=some o'->Bi ρ h o L->Bi ρ h o' L
 |[],o',L,e,hd=>by cases e;exact hd
 |(i,y)::r,o',L,e,⟨x,L',e2,h1,h2⟩=>by
  simp only [WU] at e;split at e
  ·rename_i r' hr;have ih:=sC hr h2;split at e
   ·split at e<;>cases e;rename_i Da Dk;obtain⟨vs,h3,h4⟩:=h1;exact⟨x,L',e2,⟨vs,h3,Qr q Dk h4⟩,ih⟩
   ·cases e;exact⟨x,L',e2,h1,ih⟩
  ·cases e
end
section
variable {P:Program} [Tb P] {F:Fd}{n:y_}{x:Nat->y_}{a a1 a2:LO}{o o1 o2:LQ}{v t:Nat}{d:D}
theorem Kj (k:Nat) {c:Code}(hk:BH o k=some (.F3 v t d)) (hja:Nh k a=some a1) (hjo:Ng k (D9 o k)=some o1) (hra:WV v k a1=some a2) (hro:WU v k o1=some o2) (kk:JD P F c n x a2 ((k,.row t d)::o2)):JD P F c n x a o:=.mk λρ h S L cz=>by
 obtain⟨y,L2,hD,⟨xs,sz,rfl,hR,hb⟩,hr⟩:=cz.o.get hk;refine J.Hx (.row (ρ.a v) (ρ.c v) t sz (ρ.n v) xs::L2) (.cons hD .all) ?_;have q:(ρ.yI k (ρ.a v) (ρ.c v) (ρ.n v)).a k=(ρ.yI k (ρ.a v) (ρ.c v) (ρ.n v)).a v/\(ρ.yI k (ρ.a v) (ρ.c v) (ρ.n v)).c k=(ρ.yI k (ρ.a v) (ρ.c v) (ρ.n v)).c v/\(ρ.yI k (ρ.a v) (ρ.c v) (ρ.n v)).n k=(ρ.yI k (ρ.a v) (ρ.c v) (ρ.n v)).n v:=by
  exact m108
 refine kk.k (ρ.yI k (ρ.a v) (ρ.c v) (ρ.n v)) h S _ ⟨cz.t,λs y hy=>?_,_,L2,U,⟨xs,sz,by simp [Ac.yI],by simpa [Ac.yI] using hR,by simpa [Ac.yI] using hb⟩,sC q hro (mJ hjo hr)⟩;exact m73
end
theorem pE {sz:Nat}:∀ {vs:LV},(∀ c∈vs,c.cells.toList.length=sz)->((vs.map (·.cells.toList)).flatten).length=vs.length*sz
 |[],_=>by simp
 |c::r,h=>by
  have h1:=h c (aC ..);have h2:=pE (vs:=r) λc hc=>h c (aE _ hc);simp only [yy,List.flatten_cons,aF,h1,h2,aw,D',Nat.one_mul];omega
section
variable {P:Program} [Tb P] {F:Fd}{n:y_}{x:Nat->y_}{a b Au:LO}{o ob o':LQ}{ops:Array Oper}{rest:LR}{base:Nat}{es r:List Ef}{c:Code}
variable {d k e bytes len:Nat}{ty T:TypeId}{pos:String}{af:Array Edge}{us:List Nat}{ps:Array (Nat×Operand)}{ds Iu:List D}
theorem G6.lit (K:Kd α) {l:List α}(HX:Aa us (aR CT b r)=some Au) (hp:H6 Au 0 ps.toList=some ds) (hf:He P e ds=some Iu) (hl:Nb P Iu=some (K.f l)) (hT:Cy (Tb.ap P) T=some (e,K.sz,bytes)) (h1:Nat.beq K.sz (PY (K.f l))=true) (h2:Nat.beq len ds.length=true) (h3:Nat.ble (len*K.sz) 16777216=true)
 (hd:Nat.blt d F.m=true) :
 G6 P F ops x b ob r (eMk us d k (.row k) (.row e (K.f l))) ⟨some d,.buildSlice T len ps,ty,pos,af,none⟩:=⟨Au,HX,λn A' O' hA fA fO hn=>.mk λρ h S L cz=>by
 have cu:=cz.wk hA;obtain⟨vs,h4,h5⟩:=ic cu hp;obtain⟨h6,h7,h8,h9⟩:=ti hl (jx hf h5);have e1:=am h1;have e2:=am h2;have e3:=h5.len;have e4:len=vs.length:=by omega
 have e5:len*K.sz<=16777216:=by simpa using h3
 obtain⟨_,hn',hc⟩:=K.row.1 h6;have:=K.mono;obtain⟨ps⟩:=ps;refine JL.IT vs (Tb.UM hT) h4 e4 (by rw [e1];exact h7) h3 (Nat.mul_pos xE xE) hd (λbb=>?_);have hlm:len<=140737488355328:=by
  have:len<=len*K.sz:=yW _ xE;omega
 have hfl:=pE h7;have hmx:l.length<=maxLen:=by
  have q1:(16777216:Nat)<=maxLen:=by decide
  have q2:len<=len*K.sz:=yW _ xE;omega
 refine JL.own (L':=.row (some ⟨bb,0,none⟩) l.length e K.sz l.length (vs.map (·.cells.toList)).flatten::L) (λ_ hw=>hw.PU (by rw [hfl,hn',e1]) hmx) ?_;have cf:=cz.fresh (ρ.GB k (some ⟨bb,0,none⟩) l.length l.length) fA fO;have en:(ρ.yI k (some ⟨bb,0,none⟩) l.length l.length).n k=l.length:=by simp [Ac.yI]
 have CL:Bi (ρ.yI k (some ⟨bb,0,none⟩) l.length l.length) h ((k,.row e (K.f l))::O') (.row (some ⟨bb,0,none⟩) l.length e K.sz l.length (vs.map (·.cells.toList)).flatten::L) :=
  ⟨_,L,U,⟨(vs.map (·.cells.toList)).flatten,K.sz,by simp [Ac.yI],by rw [en];exact K.row.2 ⟨U,U,hc⟩,by rw [en];omega⟩,cf.o⟩
 have GU:len=l.length:=by omega
 rw [GU];exact aj ⟨_,_,_,cF (u:=.row k) ⟨cf.t,cf.s,CL⟩ (by simp [Ac.yI,zN]) d,hn⟩⟩
theorem Xlt (K:Kd α) {l:List α}(HX:Aa (MN (.buildSlice T len ps)) a=some Au) (hp:H6 Au 0 ps.toList=some ds) (hf:He P e ds=some Iu) (hl:Nb P Iu=some (K.f l)) (hT:Cy (Tb.ap P) T=some (e,K.sz,bytes)) (h1:Nat.beq K.sz (PY (K.f l))=true) (h2:Nat.beq len ds.length=true) (h3:Nat.ble (len*K.sz) 16777216=true)
 (hv:Cr a o=some k) (hd:Nat.blt d F.m=true)
 (kk:JX P F ops n x b ob base (eMk (MN (.buildSlice T len ps)) d k (.row k) (.row e (K.f l))::es) rest ((d,.row k)::a) ((k,.row e (K.f l))::o)) :
 JX P F ops n x b ob base es (⟨some d,.buildSlice T len ps,ty,pos,af,none⟩::rest) a o :=
 JX.put (λha ho=>⟨G6.lit K (by rw [<- ha];exact HX) hp hf hl hT h1 h2 h3 hd,by subst ha;rfl,by subst ho;rfl⟩) kk
theorem G6.a9u {Fi t:Nat}{os1 os2:List Operand}{Ja MF:List D}{d0 d1 d':D}{e0:OE}(Mf:os.toList=os1++xo::os2) (HX:Aa us (aR CT b r)=some Au) (hx:z' Au xo=some (.own k 0)) (hk:BH (oS ob r) k=some e0) (he:HG e0=some (t,d0))
 (h1:Be P Au os1 ts.toList=some Ja) (h2:Be P Au os2 (ts.toList.drop (os1.length+1))=some MF) (c:Jx P Fi t Ja d0 MF (λx y=>x=d'/\y=d1)) (hF:yH P Fi=true) (hd:Nat.blt d F.m=true) :
 G6 P F ops x b ob r ⟨us,[],some (d,.d d'),some (k,.B1 t d1),false,none⟩ ⟨some d,.call { callee:=.value (.func Fi),args:=os,argTypes:=ts },ty,pos,af,none⟩:=⟨Au,HX,e0,hk,λn A' O' hA hO _ hn=>.mk λρ h S L cz=>by
 have cu:=cz.wk hA;obtain⟨v,g1,g2⟩:=bv cu hx;cases g2;obtain⟨L7,h3,h4⟩:=cL cu h1;obtain⟨ML,h5,h6⟩:=cL cu h2;obtain⟨y,L2,hD,hE,hr⟩:=cz.o.get hO;obtain⟨NW,rfl,hd0⟩:=jP he hE;obtain⟨os⟩:=os;simp only at Mf;subst Mf;have hev:FY S (os1++xo::os2)=some (L7++.pointer (some ⟨ρ.b k,0,none⟩)::ML):=tu h3 (by simp only [FY,g1,h5]);refine cI hF hev (c.fn h (ρ.b k) NW L7 ML cz.t h4 hd0 h6) (.cons hD .nil) hd (λv h2 Lo zH ⟨x1,x2,ws,⟨q1,q2⟩,e1,e2,e3⟩=>?_);subst e3 q1 q2;have czm:=cz.mono zH;have CL:Bi ρ h2 ((k,.B1 t x2)::D9 O' k) (.yY (ρ.b k) t ws::L2):=⟨_,L2,U,⟨ws,U,e2⟩,hr.mono zH⟩;exact aj ⟨_,_,_,cF (u:=.d x1) ⟨czm.t,czm.s,CL⟩ e1 d,hn⟩⟩
theorem Xcp {Fi t:Nat}{os1 os2:List Operand}{Ja MF:List D}{d0 d1 d':D}{e0:OE}(Mf:os.toList=os1++xo::os2) (HX:Aa (IF os.toList) a=some Au) (hx:z' Au xo=some (.own k 0)) (hk:BH o k=some e0) (he:HG e0=some (t,d0))
 (h1:Be P Au os1 ts.toList=some Ja) (h2:Be P Au os2 (ts.toList.drop (os1.length+1))=some MF) (c:Jx P Fi t Ja d0 MF (λx y=>x=d'/\y=d1)) (Ip:H7 o k=some o')
 (kk:JX P F ops n x b ob base (⟨IF os.toList,[],some (d,.d d'),some (k,.B1 t d1),false,none⟩::es) rest ((d,.d d')::a) ((k,.B1 t d1)::o')) (hF:yH P Fi=true:=by kernel_rfl) (hd:Nat.blt d F.m=true:=by rfl) :
 JX P F ops n x b ob base es (⟨some d,.call { callee:=.value (.func Fi),args:=os,argTypes:=ts },ty,pos,af,none⟩::rest) a o:=by
 obtain rfl:=eZ Ip;exact JX.put (λha ho=>⟨G6.a9u Mf (by rw [<- ha];exact HX) hx (by rw [<- ho];exact hk) he h1 h2 c hF hd,by subst ha;rfl,by subst ho;rfl⟩) kk
end
theorem Jx.imp  [Tb P] {Fi t:Nat}{Ja MF:List D}{d0:D}{R R':D->D->Prop}(c:Jx P Fi t Ja d0 MF R) (hr:∀ d d1,R d d1->∃ d2,R' d d2/\∀ h v,Den d1 h v->Den d2 h v):Jx P Fi t Ja d0 MF R':=.mk λh b NW L7 ML hT h1 h2 h3 =>
 (c.fn h b NW L7 ML hT h1 h2 h3).mono λe h' Lo _ ⟨v,he,d,d1,ws,hR,k1,k2,k3⟩=>by
  obtain⟨d2,q1,q2⟩:=hr d d1 hR;exact⟨v,he,d,d2,ws,q1,k1,q2 _ _ k2,k3⟩
def En (y x:A):Prop:=∀ ρ h v,zN ρ h y v->zN ρ h x v
theorem En.r {y:A}:En y y:=λ_ _ _ h=>h
abbrev az:=@En.r
theorem En.q {b:Bool}:En (.d (.v (.bool b))) (.d (.bq b)):=λ_ h v k=>by
 rw [cY.1 (show Den (.v (.bool b)) h v from k)];exact(cC (h:=h)).2 U
abbrev dL:=@En.q
def Jq:LO->LO->Prop
 |[],_=>True
 |(t,x)::r,a=>(∃ y,BF a t=some y/\En y x)/\Jq r a
theorem Jq.lk {a:LO}{ρ:Ac}{h:Part}{S:AH}:∀ {aa:LO}{t:Nat}{x:A},Jq aa a->(∀ t x,BF a t=some x->∃ v,look S t=some v/\zN ρ h x v)->BF aa t=some x->∃ v,look S t=some v/\zN ρ h x v
 |[],t,x,_,_,hx=>by cases hx
 |(u,y)::r,t,x,⟨⟨z,h1,h2⟩,hr⟩,hs,hx=>by
  simp only [BF] at hx;cases hb:Nat.beq u t with
  |true =>
   obtain rfl:=am hb;simp only [hb,cond_true,au] at hx;subst hx;obtain⟨v,g1,g2⟩:=hs _ _ h1;exact⟨v,g1,h2 _ _ _ g2⟩
  |false=>simp only [hb,cond_false] at hx;exact Jq.lk hr hs hx
section
variable {P:Program} [Tb P] {F:Fd}{n:y_}{x x':Nat->y_}{a:LO}{o:LQ}{c d:Code}
theorem JD.wd {a':LO}{o':LQ}(hA:Jq a' a) (hO:I7 o' o) (k:JD P F c n x a' o'):JD P F c n x a o:=.mk λρ h S L cz=>by
 exact m125
theorem Jm {γ:Type}(aa:γ->LO) (oo:γ->LQ) (I:γ->Prop) (k1:JD P F c (λa1 o1=>∃ g,I g/\Jq (aa g) a1/\I7 (oo g) o1) x a o) (k2:∀ g,I g->JD P F d n x' (aa g) (oo g)):JD P F c (JD P F d n x') x a o :=
 JD.cut k1 (λa1 o1 ⟨g,hI,hA,hO⟩=>(k2 g hI).wd hA hO) (λ_ _ _ h=>h)
end
section
variable {P:Program} [Tb P] {F:Fd}{a:LO}{o:LQ}{ops:Array Oper}{d e bytes len:Nat}{ty T:TypeId}{pos:String}{af:Array Edge}{ps:Array (Nat×Operand)}
theorem wq {R:DI α}{sz:Nat}{l:List α}{vs:LV}(hh:Fa (λ(y:α) (v:Value)=>v.cells.toList.length=sz/\R h v.cells.toList y) l vs):∀ c∈vs,c.cells.toList.length=sz:=by
 exact m29
theorem Fa.lng {α β:Type _}{R:α->β->Prop}{l:List α}{r:List β}(h:Fa R l r):l.length=r.length:=by
 induction h with
 |nil=>rfl
 |cons _ _ ih=>simp [ih]
theorem yi.a8x (K:Kd α) (l:List α) {ds:List D}(hA:∀ h vs,yT ds h vs->Fa (λ(y:α) (v:Value)=>v.cells.toList.length=K.sz/\K.R h v.cells.toList y) l vs) (hT:Mq P T=some (e,K.sz,bytes)) (hp:H6 a 0 ps.toList=some ds) (h1:Nat.blt 0 (len*K.sz)=true) (h2:Nat.beq len l.length=true) (h3:Nat.ble (len*K.sz) 16777216=true) (hd:Nat.blt d F.m=true) :
 yi P F ops a o ⟨some d,.buildSlice T len ps,ty,pos,af,none⟩ d (.d (K.f l)):=λρ h S L L' Lr p cz N X rest k=>by
 obtain⟨vs,h4,h5⟩:=ic cz hp;have h6:=hA h vs h5;have e2:=am h2;have e3:=h6.lng;have g1:0<len*K.sz:=by simpa using h1
 have g2:len*K.sz<=16777216:=by simpa using h3
 have g3:len<=len*K.sz:=yW _ (O_ λh=>by rw [h] at g1;simp at g1);have:=K.mono;obtain⟨ps⟩:=ps;refine JL.IT vs hT h4 xE (wq h6) h3 g1 hd (λb=>?_);exact JL.LY .here (dS h6) xE (λh' hle hS=>k _ h' hle (by rw [e2];exact K.den.2 ⟨_,_,U,hS⟩))
end
theorem tC:∀ {h:Part}{v:Value},Den (.v (.slice none 0 0)) h v->∀ {α:Type}{sz:Nat}{enc:α->List D},Den (.sl sz enc []) h v:=λk=>by
 intro α sz enc;rw [cY.1 k];exact ig
theorem vK {v:Value}(k:Den (.v (.slice none 0 0)) h v):Den (.bs []) h v:=by
 rw [cY.1 k];exact kK
def MK (y x:OE):Prop:=∀ ρ h k z,Gl ρ h k y z->Gl ρ h k x z
theorem MK.r {y:OE}:MK y y:=λ_ _ _ _ h=>h
abbrev cQ:=@MK.r
def CvL:List A->List A->Prop
 |[],[]=>True
 |x::r,y::r'=>En x y/\CvL r r'
 |_,_=>False
theorem Zs {ρ:Ac}{h:Part}:∀ {l l':List A}{vs:LV},CvL l l'->yZ ρ h l vs->yZ ρ h l' vs
 |[],[],_,_,k=>k
 |x::r,y::r',_,⟨h1,h2⟩,⟨v,t,e,o1,k1,k2⟩=>⟨v,t,e,o1,h1 _ _ _ k1,Zs h2 k2⟩
 |[],_::_,_,h,_=>h.elim
 |_::_,[],_,h,_=>h.elim
theorem MK.v {t:TypeId}{l l':List A}(h:CvL l l'):MK (.var t l) (.var t l'):=λ_ _ _ _ ⟨vs,e,k⟩=>⟨vs,e,Zs h k⟩
theorem En.z {sz:Nat}{enc:α->List D}:En (.d (.v (.slice none 0 0))) (.d (.sl sz enc [])):=λ_ _ _ k=>tC k
theorem En.zb:En (.d (.v (.slice none 0 0))) (.d (.bs [])):=λ_ _ _ k=>vK k
def WkF:LQ->LQ->Prop
 |[],_=>True
 |(k,e)::r,o=>(∃ e1,BH o k=some e1/\MK e1 e)/\WkF r (D9 o k)
theorem WkF.den {ρ:Ac}{h:Part}:∀ {o' o:LQ}{L:LE},WkF o' o->Bi ρ h o L->∃ L' Lr,zO L' L Lr/\Bi ρ h o' L'
 |[],o,L,_,_=>⟨[],L,.nil,U⟩
 |(k,e)::r,o,L,⟨⟨e1,h0,hc⟩,hw⟩,hd=>by
  obtain⟨x,L1,h1,h2,h3⟩:=hd.get h0;obtain⟨L',Lr,h4,h5⟩:=WkF.den hw h3;exact⟨x::L',Lr,.cons h1 h4,x,L',U,hc _ _ _ _ h2,h5⟩
section
variable {P:Program} [Tb P] {F:Fd}{n:y_}{x x':Nat->y_}{a:LO}{o:LQ}{c d:Code}
theorem JD.wf {a':LO}{o':LQ}(hA:Jq a' a) (hO:WkF o' o) (k:JD P F c n x a' o'):JD P F c n x a o:=.mk λρ h S L cz=>by
 exact m125
theorem Jf {γ:Type}(aa:γ->LO) (oo:γ->LQ) (I:γ->Prop) (k1:JD P F c (λa1 o1=>∃ g,I g/\Jq (aa g) a1/\WkF (oo g) o1) x a o) (k2:∀ g,I g->JD P F d n x' (aa g) (oo g)):JD P F c (JD P F d n x') x a o :=
 JD.cut k1 (λa1 o1 ⟨g,hI,hA,hO⟩=>(k2 g hI).wf hA hO) (λ_ _ _ h=>h)
end
section
variable {P:Program} [Tb P] {F:Fd}{a:LO}{o:LQ}{ops:Array Oper}{d:Nat}{ty T yt:TypeId}{pos:String}{af:Array Edge}{g:Option (Nat×Bool)}{xo yo lo hi:Operand}{p q i j:Int}{k kk k2:IntKind}{s:yG}
theorem yi.ixS (m:Nat) (hx:z' a xo=some (.d (.s s))) (hy:z' a yo=some (.d (.v (.int kk i)))) (hi:i=(m:Int)) (h1:m<s.length) (hT:P.underlying T=some .string) (hg:Cc ops a g=some true) (hd:Nat.blt d F.m=true) :
 yi P F ops a o ⟨some d,.index T xo yo,ty,pos,af,g⟩ d (.d (.v (.int .u8 (xF s m:Int)))):=.run hg hd λρ h S L cz=>⟨_,xG.JB hT (bR cz hx) (bR cz hy) hi h1,bh (h:=h)⟩
theorem yi.T6 (hx:z' a xo=some (.d (.v (.int .u8 p)))) (hy:z' a yo=some (.d (.v (.int .u8 q)))) (h0:0<=p-q/\p-q<=255) (hg:Cc ops a g=some true) (hd:Nat.blt d F.m=true) :
 yi P F ops a o ⟨some d,.binOp .sub T xo yo yt,ty,pos,af,g⟩ d (.d (.v (.int .u8 (p-q)))):=.bin hx hy (λ_ _ _ h1 h2=>xG.a4K h1 h2 h0.1 h0.2) hg hd
theorem yi.a8t (hx:z' a xo=some (.d (.v (.int .u64 p)))) (hy:z' a yo=some (.d (.v (.int .u64 q)))) (h0:0<=p*q/\p*q<=18446744073709551615) (hg:Cc ops a g=some true) (hd:Nat.blt d F.m=true) :
 yi P F ops a o ⟨some d,.binOp .mul T xo yo yt,ty,pos,af,g⟩ d (.d (.v (.int .u64 (p*q)))):=.bin hx hy (λ_ _ _ h1 h2=>xG.M7 h1 h2 h0.1 h0.2) hg hd
theorem yi.a9G (hx:z' a xo=some (.d (.v (.int .u64 p)))) (hy:z' a yo=some (.d (.v (.int .u64 q)))) (h0:0<=p+q/\p+q<=18446744073709551615) (hg:Cc ops a g=some true) (hd:Nat.blt d F.m=true) :
 yi P F ops a o ⟨some d,.binOp .add T xo yo yt,ty,pos,af,g⟩ d (.d (.v (.int .u64 (p+q)))):=.bin hx hy (λ_ _ _ h1 h2=>xG.Jd h1 h2 h0.1 h0.2) hg hd
theorem yi.a7T (hx:z' a xo=some (.d (.v (.int .u64 p)))) (hy:z' a yo=some (.d (.v (.int .u64 q)))) (h0:0<=p-q/\p-q<=18446744073709551615) (hg:Cc ops a g=some true) (hd:Nat.blt d F.m=true) :
 yi P F ops a o ⟨some d,.binOp .sub T xo yo yt,ty,pos,af,g⟩ d (.d (.v (.int .u64 (p-q)))):=.bin hx hy (λ_ _ _ h1 h2=>xG.Q0 h1 h2 h0.1 h0.2) hg hd
theorem yi.qU (hx:z' a xo=some (.d (.v (.int .u64 p)))) (hy:z' a yo=some (.d (.v (.int .u64 q)))) (h0:0<=p/\p<=18446744073709551615/\0<q) (hg:Cc ops a g=some true) (hd:Nat.blt d F.m=true) :
 yi P F ops a o ⟨some d,.binOp .quo T xo yo yt,ty,pos,af,g⟩ d (.d (.v (.int .u64 (p / q)))):=.bin hx hy (λ_ _ _ h1 h2=>xG.ET h1 h2 h0.1 h0.2.1 h0.2.2) hg hd
theorem yi.rU (hx:z' a xo=some (.d (.v (.int .u64 p)))) (hy:z' a yo=some (.d (.v (.int .u64 q)))) (h0:0<=p/\0<q) (hg:Cc ops a g=some true) (hd:Nat.blt d F.m=true) :
 yi P F ops a o ⟨some d,.binOp .rem T xo yo yt,ty,pos,af,g⟩ d (.d (.v (.int .u64 (p % q)))):=.bin hx hy (λ_ _ _ h1 h2=>xG.HO h1 h2 h0.1 h0.2) hg hd
theorem yi.adB (hx:z' a xo=some (.d (.v (.int .u8 p)))) (hy:z' a yo=some (.d (.v (.int .u8 q)))) (h0:0<=p+q/\p+q<=255) (hg:Cc ops a g=some true) (hd:Nat.blt d F.m=true) :
 yi P F ops a o ⟨some d,.binOp .add T xo yo yt,ty,pos,af,g⟩ d (.d (.v (.int .u8 (p+q)))):=.bin hx hy (λ_ _ _ h1 h2=>xG.a7y h1 h2 h0.1 h0.2) hg hd
theorem yi.rB (hx:z' a xo=some (.d (.v (.int .u8 p)))) (hy:z' a yo=some (.d (.v (.int .u8 q)))) (h0:0<=p/\0<q) (hg:Cc ops a g=some true) (hd:Nat.blt d F.m=true) :
 yi P F ops a o ⟨some d,.binOp .rem T xo yo yt,ty,pos,af,g⟩ d (.d (.v (.int .u8 (p % q)))):=.bin hx hy (λ_ _ _ h1 h2=>xG.a5c h1 h2 h0.1 h0.2) hg hd
theorem yi.qB (hx:z' a xo=some (.d (.v (.int .u8 p)))) (hy:z' a yo=some (.d (.v (.int .u8 q)))) (h0:0<=p/\p<=255/\0<q) (hg:Cc ops a g=some true) (hd:Nat.blt d F.m=true) :
 yi P F ops a o ⟨some d,.binOp .quo T xo yo yt,ty,pos,af,g⟩ d (.d (.v (.int .u8 (p / q)))):=.bin hx hy (λ_ _ _ h1 h2=>xG.a5m h1 h2 h0.1 h0.2.1 h0.2.2) hg hd
theorem yi.a6E {src dst:TypeId}(m:Nat) (hx:z' a xo=some (.d (.v (.int kk p)))) (hc:Bz P src dst=some .u8) (hm:p=(m:Int)) (hg:Cc ops a g=some true) (hd:Nat.blt d F.m=true) :
 yi P F ops a o ⟨some d,.convert src dst xo,ty,pos,af,g⟩ d (.d (.v (.int .u8 ((UInt8.ofNat m).toNat:Int)))):=.run hg hd λρ h S L cz=>⟨_,xG.toByte m hc (bR cz hx) hm,bh (h:=h)⟩
theorem yi.cv8 {src dst:TypeId}(hx:z' a xo=some (.d (.v (.int kk p)))) (hc:Bz P src dst=some .u8) (hm:0<=p/\p<=255) (hg:Cc ops a g=some true) (hd:Nat.blt d F.m=true) :
 yi P F ops a o ⟨some d,.convert src dst xo,ty,pos,af,g⟩ d (.d (.v (.int .u8 p))):=.run hg hd λρ h S L cz=>⟨_,xG.toByte p.toNat hc (bR cz hx) xE,by
 rw [show((UInt8.ofNat p.toNat).toNat:Int)=p by rw [xZ];omega];exact bh (h:=h)⟩
theorem yi.a9i (m m':Nat) (hx:z' a xo=some (.d (.s s))) (hl:z' a lo=some (.d (.v (.int kk i)))) (hh:z' a hi=some (.d (.v (.int k2 j)))) (Bx:i=(m:Int)) (hj:j=(m':Int)) (h1:m<=m'/\m'<=s.length) (hT:P.underlying T=some .string) (hg:Cc ops a g=some true) (hd:Nat.blt d F.m=true) :
 yi P F ops a o ⟨some d,.slice T xo (some lo) (some hi) none,ty,pos,af,g⟩ d (.d (.s ((s.drop m).take (m'-m)))):=.run hg hd λρ h S L cz=>⟨_,xG.T7 hT (bR cz hx) (bR cz hl) (bR cz hh) Bx hj h1.1 h1.2,bh (h:=h)⟩
theorem yi.Aq (m:Nat) (hx:z' a xo=some (.d (.s s))) (hl:z' a lo=some (.d (.v (.int kk i)))) (Bx:i=(m:Int)) (h1:m<=s.length) (hT:P.underlying T=some .string) (hg:Cc ops a g=some true) (hd:Nat.blt d F.m=true) :
 yi P F ops a o ⟨some d,.slice T xo (some lo) none none,ty,pos,af,g⟩ d (.d (.s (s.drop m))):=.run hg hd λρ h S L cz=>⟨_,xG.JC hT (bR cz hx) (bR cz hl) Bx h1,bh (h:=h)⟩
theorem yi.a9j (m:Nat) (hx:z' a xo=some (.d (.s s))) (hl:z' a hi=some (.d (.v (.int kk i)))) (Bx:i=(m:Int)) (h1:m<=s.length) (hT:P.underlying T=some .string) (hg:Cc ops a g=some true) (hd:Nat.blt d F.m=true) :
 yi P F ops a o ⟨some d,.slice T xo none (some hi) none,ty,pos,af,g⟩ d (.d (.s (s.take m))):=.run hg hd λρ h S L cz=>⟨_,xG.MS hT (bR cz hx) (bR cz hl) Bx h1,bh (h:=h)⟩
end
section
variable {P:Program} [Tb P] {F:Fd}{n:y_}{x:Nat->y_}{a b Au:LO}{o ob:LQ}{ops:Array Oper}{rest:LR}{base:Nat}{es:List Ef}{d:Nat}{ty T:TypeId}{pos:String}{af:Array Edge}{g:Option (Nat×Bool)}{xo yo:Operand}{i:Int}{kk:IntKind}{s:yG}
def usG (ops:Array Oper) (us:List Nat):Option (Nat×Bool)->List Nat
 |none=>us
 |some (j,_)=>match K_ ops.toList j with
  |some dj=>dj::us
  |none=>us
theorem b1z (m:Nat) (hk:Aa (usG ops (IF [xo,yo]) g) a=some Au) (hx:z' Au xo=some (.d (.s s))) (hy:z' Au yo=some (.d (.v (.int kk i)))) (hi:i=(m:Int)) (h1:m<s.length) (k:JX P F ops n x b ob base (IX (usG ops (IF [xo,yo]) g) [] d (.d (.v (.int .u8 (xF s m:Int))))::es) rest ((d,.d (.v (.int .u8 (xF s m:Int))))::a) o)
 (hT:P.underlying T=some .string:=by kernel_rfl) (hg:Cc ops Au g=some true:=by rfl) (hd:Nat.blt d F.m=true:=by rfl):JX P F ops n x b ob base es (⟨some d,.index T xo yo,ty,pos,af,g⟩::rest) a o:=JX.s1 _ hk (yi.ixS m hx hy hi h1 hT hg hd) k
end
section
variable {P:Program} [Tb P] {F:Fd}{n:y_}{x:Nat->y_}{a a':LO}{o o':LQ}{c:Code}
theorem Cz.wd2 (hA:Jq a' a) (hO:I7 o' o) (cz:Cz P ρ h a o S L):∃ L' Lr,zO L' L Lr/\Cz P ρ h a' o' S L':=by
 obtain⟨L',Lr,h1,h2⟩:=hO.den cz.o;exact⟨L',Lr,h1,cz.t,λt y hy=>hA.lk cz.s hy,h2⟩
theorem Lq {γ:Type _}(I:γ->Prop) (t:γ->Nat) (aa:γ->LO) (oo:γ->LQ) (g0:γ) (hI:I g0) (hA:Jq (aa g0) a) (hO:I7 (oo g0) o)
 (round:∀ g,I g->JD P F c (λa' o'=>∃ g',t g'<t g/\I g'/\Jq (aa g') a'/\I7 (oo g') o') x (aa g) (oo g)):JD P F (.loop c) n x a o:=.mk λρ h S L cz ac w s=>by
 obtain⟨L',Lr,h1,h2⟩:=cz.wd2 hA hO;refine fk (λi ac w=>∃ g S h L,t g=i/\I g/\Sat (F.fr P).e (F.fr P).m S h L ac w/\∃ ρ,Cz P ρ h (aa g) (oo g) S L) ?_ (t g0) ac w ⟨g0,S,h,L',U,hI,s.with (h1.ok w s.ok),ρ,h2⟩;rintro _ ac w ⟨g,S,h,L,rfl,hg,s,ρ,cz⟩;refine LG ((round g hg).k ρ h S L cz ac w s) (λex a' w' q=>?_);cases ex with
 |normal =>
  obtain⟨S',h',L',s',Ex,a1,o1,BG,g',yJ,hg',hA',hO'⟩:=q;obtain⟨L2,Lr2,h3,h4⟩:=BG.wd2 hA' hO';exact m189
 |_=>exact q
end
abbrev byD (b:UInt8):D:=.v (.int .u8 (b.toNat:Int))
theorem OQ {K:Kd α}{x:α}{d0:D}(hx:∀ h v,Den d0 h v->v.cells.toList.length=K.sz/\K.R h v.cells.toList x):∀ h vs,yT [d0] h vs->Fa (λ(y:α) (v:Value)=>v.cells.toList.length=K.sz/\K.R h v.cells.toList y) [x] vs:=λh vs k=>by
 obtain⟨v,rfl,h1⟩:=ll k;exact .cons (hx h v h1) .nil
theorem a3I {b:UInt8}:∀ h v,Den (byD b) h v->v.cells.toList.length=kB.sz/\kB.R h v.cells.toList b:=λh v k=>by rw [cY.1 k];exact⟨U,U⟩
theorem a3t {p:Int}(h:0<=p/\p<=255):p=((UInt8.ofNat p.toNat).toNat:Int):=by rw [xZ];omega
theorem a8l {n:Nat}:∀ h v,Den (.v (.int .u64 (n:Int))) h v->v.cells.toList.length=(kS 1 KD).sz/\(kS 1 KD).R h v.cells.toList n:=λh v k=>by rw [cY.1 k];exact⟨U,.c U (bh (h:=h)) .n⟩
section
variable {P:Program} [Tb P] {F:Fd}{n:y_}{x:Nat->y_}{rest:LR}{a:LO}{o:LQ}{ops:Array Oper}{d e bytes len k:Nat}{ty T:TypeId}{pos:String}{af:Array Edge}{ps:Array (Nat×Operand)}
theorem yi.b0m {p:Int}(b:UInt8) (hp:H6 a 0 ps.toList=some [.v (.int .u8 p)]) (hb:p=(b.toNat:Int)) (hT:Cy (Tb.ap P) T=some (e,1,bytes)) (hd:Nat.blt d F.m=true) :
 yi P F ops a o ⟨some d,.buildSlice T 1 ps,ty,pos,af,none⟩ d (.d (.bs [b])):=.a8x kB [b] (OQ a3I) (Tb.UM hT) (by rw [hp,hb]) U U U hd
theorem yi.b0l {p:Int}(m:Nat) (hp:H6 a 0 ps.toList=some [.v (.int .u64 p)]) (hb:p=(m:Int)) (hT:Cy (Tb.ap P) T=some (e,1,bytes)) (hd:Nat.blt d F.m=true) :
 yi P F ops a o ⟨some d,.buildSlice T 1 ps,ty,pos,af,none⟩ d (.d (.sl 1 KD [m])):=.a8x (kS 1 KD) [m] (OQ a8l) (Tb.UM hT) (by rw [hp,hb]) U U U hd
theorem b1H (K:Kd α) (l:List α) {ds:List D}(hA:∀ h vs,yT ds h vs->Fa (λ(y:α) (v:Value)=>v.cells.toList.length=K.sz/\K.R h v.cells.toList y) l vs) (hT:Mq P T=some (e,K.sz,bytes)) (hp:H6 a 0 ps.toList=some ds) (h1:Nat.blt 0 (len*K.sz)=true) (h2:Nat.beq len l.length=true) (h3:Nat.ble (len*K.sz) 16777216=true) (hk:Cr a o=some k) (hd:Nat.blt d F.m=true)
 (kk:Al P F ops n x rest ((d,.row k)::a) ((k,.row e (K.f l))::o)):Al P F ops n x (⟨some d,.buildSlice T len ps,ty,pos,af,none⟩::rest) a o:=.mk λρ h S L cz=>by
 obtain⟨vs,h4,h5⟩:=ic cz hp;have h6:=hA h vs h5;have e2:=am h2;have e3:=h6.lng;have g1:0<len*K.sz:=by simpa using h1
 have g2:len*K.sz<=16777216:=by simpa using h3
 have g3:len<=len*K.sz:=yW _ (O_ λh=>by rw [h] at g1;simp at g1);have q1:(16777216:Nat)<=maxLen:=by decide
 have all:=wq h6;obtain⟨ps⟩:=ps;refine JL.IT vs hT h4 xE all h3 g1 hd (λb=>?_);refine JL.own (L':=.row (some ⟨b,0,none⟩) l.length e K.sz l.length (vs.map (·.cells.toList)).flatten::L) (λ_ hw=>hw.PU (by rw [pE all,e3]) xE) ?_;have Mp:=cz.eqv hk (ρ.E' k (some ⟨b,0,none⟩) l.length l.length);have CL:Bi (ρ.yI k (some ⟨b,0,none⟩) l.length l.length) h ((k,.row e (K.f l))::o) (.row (some ⟨b,0,none⟩) l.length e K.sz l.length (vs.map (·.cells.toList)).flatten::L):=by
  have en:(ρ.yI k (some ⟨b,0,none⟩) l.length l.length).n k=l.length:=by simp [Ac.yI]
  refine⟨_,L,U,⟨(vs.map (·.cells.toList)).flatten,K.sz,by simp [Ac.yI],by rw [en];exact K.row.2 ⟨U,U,dS h6⟩,by rw [en];omega⟩,Mp.o⟩
 rw [e2];exact kk.k (ρ.yI k (some ⟨b,0,none⟩) l.length l.length) h _ _ (cF (u:=.row k) ⟨Mp.t,Mp.s,CL⟩ (by simp [Ac.yI,zN]) d)
theorem b1I (_:Rm) {p:Int}(b:UInt8) (hp:H6 a 0 ps.toList=some [.v (.int .u8 p)]) (hb:p=(b.toNat:Int)) (hT:Cy (Tb.ap P) T=some (e,1,bytes)) (hk:Cr a o=some k) (hd:Nat.blt d F.m=true)
 (kk:Al P F ops n x rest ((d,.row k)::a) ((k,.row e (.bs [b]))::o)):Al P F ops n x (⟨some d,.buildSlice T 1 ps,ty,pos,af,none⟩::rest) a o:=b1H kB [b] (OQ a3I) (Tb.UM hT) (by rw [hp,hb]) U U U hk hd kk
end
theorem UY (h:p:=by first|exact ew rfl|with_reducible rfl|exact(zk xE).symm):p:=h
theorem a1Q (h:p:=by first|omega|(simp only [xZ];omega)):p:=h
theorem HR (h:p:=by first|omega|(simp only [aw,ay,aS,aM];omega)):p:=h
theorem V {p q:Prop}(k:q) (h:Tg q->p:=by
 intro k;refine W ?_
 repeat ((first
  |refine aI (yi.mul rfl rfl HR rfl rfl) ?_
  |refine aI (yi.T6 rfl rfl HR rfl rfl) ?_
  |refine aI (yi.a8t rfl rfl HR rfl rfl) ?_
  |refine aI (yi.a9G rfl rfl HR rfl rfl) ?_
  |refine aI (yi.a7T rfl rfl HR rfl rfl) ?_
  |refine aI (yi.qU rfl rfl HR rfl rfl) ?_
  |refine aI (yi.rU rfl rfl HR rfl rfl) ?_
  |refine aI (yi.rB rfl rfl HR rfl rfl) ?_
  |refine aI (yi.qB rfl rfl HR rfl rfl) ?_
  |refine aI (yi.ixS _ rfl rfl UY HR cq rfl rfl) ?_
  |refine aI (yi.a9i _ _ rfl rfl rfl UY UY HR cq rfl rfl) ?_
  |refine aI (yi.Aq _ rfl rfl UY HR cq rfl rfl) ?_
  |refine aI (yi.a9j _ rfl rfl UY HR cq rfl rfl) ?_
  |refine aI (yi.cv8 rfl (by decide +kernel) a1Q rfl rfl) ?_
  |refine aI (yi.adB rfl rfl a1Q rfl rfl) ?_
  |refine aI (yi.a6E _ rfl (by decide +kernel) UY rfl rfl) ?_
  |refine b1I zL _ rfl (by first|rfl|exact a3t a1Q) rfl rfl rfl ?_
  |refine aI (yi.b0m _ rfl (by first|rfl|exact a3t a1Q) rfl rfl) ?_
  |refine aI (yi.b0l _ rfl UY rfl rfl) ?_
  |refine bm rfl (yi.mul rfl rfl HR rfl rfl) ?_
  |refine bm rfl (yi.T6 rfl rfl HR rfl rfl) ?_
  |refine bm rfl (yi.quo rfl rfl HR rfl rfl) ?_
  |refine bm rfl (yi.rem rfl rfl HR rfl rfl) ?_
  |refine bm rfl (yi.a8t rfl rfl HR rfl rfl) ?_
  |refine bm rfl (yi.a9G rfl rfl HR rfl rfl) ?_
  |refine bm rfl (yi.a7T rfl rfl HR rfl rfl) ?_
  |refine bm rfl (yi.qU rfl rfl HR rfl rfl) ?_
  |refine bm rfl (yi.rU rfl rfl HR rfl rfl) ?_
  |refine bm rfl (yi.rB rfl rfl HR rfl rfl) ?_
  |refine bm rfl (yi.qB rfl rfl HR rfl rfl) ?_
  |refine b1z _ rfl rfl rfl UY HR ?_
  |refine bm rfl (yi.a9i _ _ rfl rfl rfl UY UY HR cq rfl rfl) ?_
  |refine bm rfl (yi.Aq _ rfl rfl UY HR cq rfl rfl) ?_
  |refine bm rfl (yi.a9j _ rfl rfl UY HR cq rfl rfl) ?_);refine W ?_)
 exact k.k):p:=h ⟨k⟩
theorem Vi {p q r:Prop}(k:q) (l:r) (h:Tg q->Tg r->p:=by
 intro k l;refine V ?_;exact Ci U k.k l.k):p:=h ⟨k⟩ ⟨l⟩
theorem Vg {p q r:Prop}(k:q) (l:r) (h:Tg q->Tg r->p:=by
 intro k l;refine V ?_;exact Bg U U k.k l.k):p:=h ⟨k⟩ ⟨l⟩
theorem Vr {p q:Prop}(k:q) (h:Tg q->p:=by
 intro k;refine V ?_;exact Rt U U k.k):p:=h ⟨k⟩
theorem Y (h:p:=by
 refine V ?_
 repeat' (first
  |(refine Bg rfl rfl (λ_=>?_) (λ_=>?_)<;>refine V ?_)
  |(refine Ci rfl (λ_=>?_) (λ_=>?_)<;>refine V ?_)
  |refine Rt rfl rfl ?_
  |rfl
  |(simp only [yR,B5];done)
  |(simp only [yR,B5, *,if_true,if_false,bg];done)
  |(simp [yR,B5, *];done)
  |(simp only [yR,B5];(repeat' split)<;>first|rfl|(simp_all;done)|(exfalso;omega)|(exfalso;simp_all;omega))
  |(show D.bq _=D.bq _;refine congrArg D.bq ?_;(repeat' split)<;>first|omega|exact y7.2 xE|(rw [<- decide_not];exact y7.2 xE)|exact(ae xE).symm|exact(ah xE).symm|exact ae xE|exact ah xE)
  |(simp_all [yR,B5];done)
  |(simp_all [yR,B5];omega))):p:=h
section
variable {P:Program} [Tb P] {n:y_}{x:Nat->y_}{a a1:LO}{o o1:LQ}{e:Env}{m:Nat}{fn:Func}{ρ:Ac}{h:Part}{S:AH}{L:LE}{ds:List D}{b t:Nat}
theorem a58 (cz:Cz P ρ h a o S L) (hp:E4 (Ye o) a o=some (a1,o1)) (hr:KI P a1 o1 fn.results.toList fn.resultTypes.toList=some ds) {ac:Act}{w:World}(s:Sat e m S h L ac w):∃ h' L' v,h.le h'/\Sat e m S h' L' ac w/\Cz P ρ h' a1 o1 S L'/\B7 P e m fn S h' L' v/\Den (yR ds) h' v:=by
 obtain⟨h',L',hle,zt,BG⟩:=dp hp cz s.ok;obtain⟨vs,h1,h2⟩:=ox (e:=e) (m:=m) BG hr;have hlen:=h1.len;have Gc:∀ ac w,Sat e m S h' L' ac w->(fn.results.mapM (H_ ac.tmps)).run P w=.ok vs.toArray w:=λac w s=>by
  have:=h2 ac w s;rw [HF];simp [this]
 refine(λ⟨v,hv,hd⟩=>⟨h',L',v,hle,s.with zt,BG,λac w s=>hv ac w s,hd⟩:(∃ v,(∀ ac w,Sat e m S h' L' ac w->(results fn ac.tmps).run P w=.ok v w)/\Den (yR ds) h' v)->_) ?_
 match ds,vs,h1,hlen with
 |[],[],h1,_=>exact⟨.tuple #[],λac w s=>by rw [dO];simp [Gc ac w s],bh (h:=h')⟩
 |[d],[v],h1,_ =>
  unfold yT at h1;obtain⟨v',t,e1,h3,h4⟩:=h1;cases e1;exact⟨v,λac w s=>by rw [dO];simp [Gc ac w s],h3⟩
 |d::d2::r,v::v2::r',h1,_=>exact⟨.tuple (v::v2::r').toArray,λac w s=>by rw [dO];simp [Gc ac w s],(kJ (h:=h')).2 ⟨_,U,h1⟩⟩
abbrev RB (b t:Nat) (R:D->D->Prop):Ending->Part->LE->Prop:=Cb λv h' Lo=>∃ d d1 ws,R d d1/\Den d h' v/\Den d1 h' (.agg ws.toArray)/\Lo=[.yY b t ws]
def FB (P:Program) (e:Env) (m:Nat) (fn:Func) (b t:Nat) (R:D->D->Prop):Fd:=⟨e,m,CU P e m fn (RB b t R),I9 (RB b t R)⟩
def a9I (P:Program) [Tb P] (fn:Func) (b t:Nat) (R:D->D->Prop):y_:=λa o=>∃ a1 o1 ds e0 d1 kp,E4 (Ye o) a o=some (a1,o1)/\KI P a1 o1 fn.results.toList fn.resultTypes.toList=some ds/\BH o1 0=some e0/\HG e0=some (t,d1)/\BH o1 kp=some (.Fo 0 b)/\R (yR ds) d1
variable {R:D->D->Prop}
theorem WD (k:up P (a9I P fn b t R) S h L) {ac:Act}{w:World}(s:Sat e m S h L ac w):∃ S h' L',Sat e m S h' L' ac w/\CU P e m fn (RB b t R) S h' L':=by
 obtain⟨ρ,a,o,cz,a1,o1,ds,e0,d1,kp,hp,hr,h0,hw,a6d,hR⟩:=k;obtain⟨h',L',v,hle,s',BG,hv,hd⟩:=a58 cz hp hr s;obtain⟨y,L2,hD,hE,_⟩:=BG.o.get h0;obtain⟨ws,rfl,hd1⟩:=jP hw hE;obtain⟨z,L3,_,⟨hb,_⟩,_⟩:=BG.o.get a6d;rw [hb] at hD;exact⟨S,h',L',s',v,_,L2,hv,.cons hD .nil,v,U,_,_,ws,hR,hd,hd1,U⟩
theorem Ev {d1:D}{e0:OE}(kp:Nat) (hp:E4 (Ye o) a o=some (a1,o1)) (hr:KI P a1 o1 fn.results.toList fn.resultTypes.toList=some ds) (h0:BH o1 0=some e0) (hw:HG e0=some (t,d1)) (a6d:BH o1 kp=some (.Fo 0 b)) (hR:R (yR ds) d1):JD P (FB P e m fn b t R) .ret n x a o:=.mk λρ h S L cz ac w s=>by
 obtain⟨S',h',L',s',hh⟩:=WD ⟨ρ,a,o,cz,a1,o1,ds,e0,d1,kp,hp,hr,h0,hw,a6d,hR⟩ s;exact dm (f:=(FB P e m fn b t R).fr P) (n:=up P n) (x:=λi=>up P (x i)) hh ac w s'
omit [Tb P] in
theorem a0b {A2:LO}{S2:AH}(h2:∀ t y,BF A2 t=some y->∃ v,look S2 t=some v/\zN ρ h y v):∀ {ds:List D}{vs:LV}{i t:Nat}{y:A},yT ds h vs->BF (GL i ds++A2) t=some y->∃ v,look (AL i vs++S2) t=some v/\zN ρ h y v
 |[],vs,i,t,y,hd,hy=>by unfold yT at hd;subst hd;exact h2 t y hy
 |d::r,vs,i,t,y,hd,hy=>by
  unfold yT at hd;obtain⟨v,t',rfl,h3,h4⟩:=hd;simp only [GL,BF,AL,look,xX] at hy |-
  cases hb:Nat.beq i t with
  |true=>simp only [hb,cond_true,au] at hy |-;subst hy;exact⟨v,U,h3⟩
  |false=>simp only [hb,cond_false] at hy |-;exact a0b h2 h4 hy
theorem nW:∀ (vs us:LV) (i:Nat),AL i (vs++us)=AL i vs++AL (i+vs.length) us
 |[],us,i=>rfl
 |v::r,us,i=>by
  simp only [xX,AL,nW r us (i+1),aw];rw [show i+1+r.length=i+(r.length+1) by omega]
theorem Jx.intro {Fi:Nat}{c:Code}{Ja MF:List D}{d0:D}(hf:P.funcs[Fi]?=some fn) (hb:fn.body=some c) (hm:fn.ntmps=m) (hl:Nat.ble (Ja.length+(MF.length+1)) m=true)
 (k:∀ e b,JD P (FB P e m fn b t R) c (a9I P fn b t R) IM (GL 0 Ja++(Ja.length,.own 0 0)::GL (Ja.length+1) MF) [(1,.Fo 0 b),(0,.B1 t d0)]):Jx P Fi t Ja d0 MF R:=.mk λh b NW L7 ML hT h1 h0 h2=>by
 have l1:=h1.len;have l2:=h2.len;refine aQ hf hb hm (by simp only [aF,aw,l1,l2];exact hl) (λe he=>?_);refine J.own (L':=.row none 0 0 0 0 []::[.yY b t NW]) (λ_ hw=>hw.CQ 0 0) ?_;have cz:Cz P ⟨λ_=>b,λ_=>none,λ_=>0,λ_=>0⟩ h (GL 0 Ja++(Ja.length,.own 0 0)::GL (Ja.length+1) MF) [(1,.Fo 0 b),(0,.B1 t d0)] (AL 0 (L7++.pointer (some ⟨b,0,none⟩)::ML)) (.row none 0 0 0 0 []::[.yY b t NW]):=by
  refine⟨hT,λt y hy=>?_,_,_,U,⟨U,U⟩,_,_,U,⟨NW,U,h0⟩,U⟩;rw [nW];refine a0b (λt y hy=>?_) h1 hy;rw [A0,l1];simp only [BF,AL,look] at hy |-
  cases hb:Nat.beq Ja.length t with
  |true=>simp only [hb,cond_true,au] at hy |-;subst hy;exact⟨_,U,U⟩
  |false =>
   simp only [hb,cond_false] at hy |-
   have:=a0b (A2:=[]) (S2:=[]) (ρ:=⟨λ_=>b,λ_=>none,λ_=>0,λ_=>0⟩) (λt y hy=>by cases hy) h2 (by rw [Ak];exact hy);exact m109
 intro ac w s;refine LG ((k e b).k _ h _ _ cz ac w s) (λex a' w' q=>?_);cases ex with
 |normal=>obtain⟨S',h',L',s',q'⟩:=q;obtain⟨S2,h2,L2,s2,hh⟩:=WD q' s';exact⟨S2,h2,L2,s2,hh⟩
 |exit i=>obtain⟨S',h',L',s',⟨_,_,_,_,hh⟩,_⟩:=q;exact hh.elim
 |goto i=>obtain⟨S',h',L',s',⟨_,_,_,_,hh⟩⟩:=q;exact hh.elim
 |_=>exact q
end
def KN (P:Program) (T:Nat) (u:TypeDesc):Bool:=match P.underlying T with
 |some (.map K E)=>match P.underlying K,P.info? E with
  |some .string,some i=>match i.zero,u with
   |some (.bool false),.string=>true
   |_,_=>false
  |some (.int .i64),some i=>match i.zero,u with
   |some (.bool false),.int .i64=>true
   |_,_=>false
  |_,_=>false
 |_=>false
theorem tf {T:Nat}{u:TypeDesc}(h:KN P T u=true):∃ K E i,P.underlying T=some (.map K E)/\P.underlying K=some u/\P.info? E=some i/\i.zero=some (.bool false):=by
 unfold KN at h;split at h<;>try (cases h;done)
 rename_i K E h1;split at h<;>try (cases h;done)
 all_goals
  rename_i i h2 h3;split at h<;>try (cases h;done)
  rename_i h4;exact⟨K,E,i,h1,h2,h3,h4⟩
structure Hk {α:Type} [DecidableEq α] (u:TypeDesc) (mk:α->Value):Prop where
 same:∀ s t,Instr.sameNow u (mk s) (mk t)=some (decide (t=s))
 GJ:∀ (P:Program) (K:Nat) (w:World) (e:Bool) (s:α),P.underlying K=some u->(Instr.checkKey e 10000 K (mk s)).run P w=.ok () w
abbrev MR (s:LB):Value:=.string ⟨s.toArray⟩
abbrev a2u (i:Int):Value:=.int .i64 i
theorem Rc:Hk .string MR:=⟨λs t=>by
 unfold Instr.sameNow;by_cases Lc:t=s
 ·subst Lc;have a8I:((⟨t.toArray⟩:ByteArray) == ⟨t.toArray⟩)=true:=by show(t.toArray == t.toArray)=true;simp
  simp [a8I]
 ·have D5:((⟨s.toArray⟩:ByteArray) == ⟨t.toArray⟩)=false:=by
   show(s.toArray == t.toArray)=false;rw [beq_eq_false_iff_ne];intro hh;exact Lc (by simpa using (congrArg Array.toList hh.symm))
  simp [D5,Lc],λP K w e s h2=>by unfold Instr.checkKey;simp [run_underlying h2,Result.andThen]⟩
theorem tk:Hk (.int .i64) a2u:=⟨λs t=>by
 unfold Instr.sameNow;by_cases Lc:t=s
 ·subst Lc;simp
 ·simp [Lc];exact λh=>Lc h.symm,λP K w e s h2=>by unfold Instr.checkKey;simp [run_underlying h2,Result.andThen]⟩
theorem gC {α:Type} [DecidableEq α] {u:TypeDesc}{mk:α->Value}(hk:Hk u mk) {s:α}:∀ {arr:List MapEntry}{es:List α}(i:Nat),arr.map (λe=>(e.key,e.val))=(es.map mk).map (λv=>(v,Value.bool true))->∃ r,Instr.findNow u (mk s) arr i=some r/\(r=none/\(es.any λt=>decide (t=s))=false\/∃ j,r=some (j,.bool true)/\(es.any λt=>decide (t=s))=true)
 |[],es,i,he=>by
  have:es=[]:=by simpa using he.symm
  subst this;exact⟨none,U,.inl ⟨U,U⟩⟩
 |e::r,[],i,he=>by simp at he
 |e::r,t::es,i,he=>by
  simp only [yy,List.cons.injEq,zu] at he;obtain⟨⟨h1,h2⟩,h3⟩:=he;unfold Instr.findNow;rw [h1,h2,hk.same];by_cases Lc:t=s
  ·subst Lc;exact⟨some (i,.bool true),by simp,.inr ⟨i,U,by simp⟩⟩
  ·obtain⟨r',h4,h5⟩:=gC hk (s:=s) (i+1) h3;exact⟨r',by simp [Lc,h4],by simpa [Lc] using h5⟩
end Go.Proofs.YtilafeifbaaagaaGreatDoor
