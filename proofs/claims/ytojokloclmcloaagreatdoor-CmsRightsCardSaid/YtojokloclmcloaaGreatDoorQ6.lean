/- Parts. -/
import Derived.Test.YtojokloclmcloaaGreatDoorQ5
set_option maxRecDepth 100000
set_option maxHeartbeats 4000000
set_option linter.unusedSimpArgs false
set_option linter.unusedVariables false
set_option linter.constructorNameAsVariable false
namespace Go.Proofs.YtojokloclmcloaaGreatDoor
open Go.Proofs.Tryz
open Go Go.RowKit
def CvE (y x:OE):Prop:=∀ ρ h k z,DenE ρ h k y z->DenE ρ h k x z
theorem CvE.r {y:OE}:CvE y y:=λ_ _ _ _ h=>h
def CvL:List A->List A->Prop
 |[],[]=>True
 |x::r,y::r'=>CvA x y/\CvL r r'
 |_,_=>False
theorem cvL_ok {ρ:Rho}{h:Part}:∀ {l l':List A}{vs:LV},CvL l l'->DenAL ρ h l vs->DenAL ρ h l' vs
 |[],[],_,_,k=>k
 |x::r,y::r',_,⟨h1,h2⟩,⟨v,t,e,o1,k1,k2⟩=>⟨v,t,e,o1,h1 _ _ _ k1,cvL_ok h2 k2⟩
 |[],_::_,_,h,_=>h.elim
 |_::_,[],_,h,_=>h.elim
theorem CvE.v {t:TypeId}{l l':List A}(h:CvL l l'):CvE (.var t l) (.var t l'):=λ_ _ _ _ ⟨vs,e,k⟩=>⟨vs,e,cvL_ok h k⟩
def WkF:LQ->LQ->Prop
 |[],_=>True
 |(k,e)::r,o=>(∃ e1,lkO o k=some e1/\CvE e1 e)/\WkF r (delO o k)
theorem WkF.den {ρ:Rho}{h:Part}:∀ {o' o:LQ}{L:LE},WkF o' o->DenO ρ h o L->∃ L' Lr,Parts L' L Lr/\DenO ρ h o' L'
 |[],o,L,_,_=>⟨[],L,.nil,U⟩
 |(k,e)::r,o,L,⟨⟨e1,h0,hc⟩,hw⟩,hd=>by
  obtain⟨x,L1,h1,h2,h3⟩:=hd.get h0;obtain⟨L',Lr,h4,h5⟩:=WkF.den hw h3;exact⟨x::L',Lr,.cons h1 h4,x,L',U,hc _ _ _ _ h2,h5⟩
section
variable {P:Program} [Tb P] {F:Fd}{n:PostD}{x x':Nat->PostD}{a:LO}{o:LQ}{c d:Code}
theorem JD.wf {a':LO}{o':LQ}(hA:WkD a' a) (hO:WkF o' o) (k:JD P F c n x a' o'):JD P F c n x a o:=.mk λρ h S L cz=>by
 obtain⟨L',Lr,h1,h2⟩:=hO.den cz.o;exact J.ents L' h1 (k.k ρ h S L' ⟨cz.t,λt y hy=>hA.lk cz.s hy,h2⟩)
theorem Jf {γ:Type}(aa:γ->LO) (oo:γ->LQ) (I:γ->Prop) (k1:JD P F c (λa1 o1=>∃ g,I g/\WkD (aa g) a1/\WkF (oo g) o1) x a o) (k2:∀ g,I g->JD P F d n x' (aa g) (oo g)):JD P F c (JD P F d n x') x a o :=
 JD.cut k1 (λa1 o1 ⟨g,hI,hA,hO⟩=>(k2 g hI).wf hA hO) (λ_ _ _ h=>h)
end
theorem n9 {α:Type} [DecidableEq α] {u:TypeDesc}{mk:α->Value}(hk:KeyOk u mk) {s:α}:∀ {arr:List MapEntry}{es:List α}{i j:Nat}{v:Value},arr.map (λe=>(e.key,e.val))=(es.map mk).map (λv=>(v,Value.bool true))->Instr.findNow u (mk s) arr i=some (some (j,v))->i<=j/\∃ e,arr[j-i]?=some e/\e.key=mk s/\e.val=.bool true
 |[],es,i,j,v,he,hf=>by cases hf
 |e::r,[],i,j,v,he,hf=>by simp at he
 |e::r,t::es,i,j,v,he,hf=>by
  simp only [List.map_cons,List.cons.injEq,Prod.mk.injEq] at he;obtain⟨⟨h1,h2⟩,h3⟩:=he;unfold Instr.findNow at hf;rw [h1,h2,hk.same] at hf;by_cases hts:t=s
  ·subst hts;simp only [decide_true,aB,Prod.mk.injEq] at hf;obtain⟨rfl,rfl⟩:=hf;exact⟨aL _,e,by simp,h1,h2⟩
  ·simp only [hts,decide_false] at hf;obtain⟨g1,e',g2,g3,g4⟩:=n9 hk h3 hf;refine⟨by omega,e',?_,g3,g4⟩;rw [show j-i=(j-(i+1))+1 by omega];simpa using g2
section
variable {f:Fr}{n:Post}{x:Nat->Post}{S:Sig}{h:Part}{L L':LE}{ops:Array Oper}{rest:LR}{d b cl T:Nat}{ty:TypeId}{pos:String}{af:Array Edge}{arr:Array MapEntry}{α:Type} [DecidableEq α] {u:TypeDesc}{mk:α->Value}{es:List α}{s:α}{xo yo vo:Operand}
theorem JL.putSetP (hk:KeyOk u mk) (hsb:Instr.sameBits 10000 (mk s) (mk s)=true) (hT:mapT f.P T u=true) (hx:ev S xo=some (.map (some b))) (hy:ev S yo=some (mk s)) (hv:ev S vo=some (.bool true)) (u1:Del (.obj b (.map arr cl)) L L') (he:arr.toList.map (λe=>(e.key,e.val))=(es.map mk).map (λv=>(v,Value.bool true))) (hn:(es.any λt=>decide (t=s))=true)
 (k:∀ arr':Array MapEntry,arr'.toList.map (λe=>(e.key,e.val))=(es.map mk).map (λv=>(v,Value.bool true))->JL f ops n x rest S h (.obj b (.map arr' cl)::L')):JL f ops n x (⟨none,.mapUpdate T xo yo vo,ty,pos,af,none⟩::rest) S h L:=λa w st=>by
 obtain⟨K,E,i,h1,h2,h3,h4⟩:=sf hT;have hw:w.heap[b]?=some (.map arr cl):=st.ok.own _ u1.mem;obtain⟨r,hr,hc⟩:=gu hk (s:=s) 0 he;have hck:=hk.chk f.P K w false s h2;have hfk:=iI (P:=f.P) (w:=w) h2 hr;rcases hc with ⟨rfl,hc⟩|⟨j,rfl,hc⟩
 ·rw [hn] at hc;cases hc
 ·obtain⟨-,e,g1,g2,g3⟩:=n9 hk he hr;simp only [Nat.sub_zero] at g1;have g1':arr[j]?=some e:=by rw [<- Array.getElem?_toList];exact g1
  refine eW (w':=w.putObj b (.map (arr.modify j λe=>{ e with key:=mk s,val:=.bool true }) cl)) U ?_ (k _ ?_ _ _ (st.with ((st.ok.perm u1.perm).putObj _)))
  ·simp [execOp,st.eval hx,st.eval hy,st.eval hv,Instr.mapUpdate,run_underlying h1,getObj,setObj,Sem.run,hw,hck,hfk,Result.andThen,World.putObj,g1',g2,Instr.keyThatStays,hsb]
  ·rw [<- he];refine List.ext_getElem? λm=>?_;rw [Array.toList_modify,List.getElem?_map,List.getElem?_map,List.getElem?_modify];by_cases hm:j=m
   ·subst hm;rw [g1];simp [g2,g3]
   ·simp [hm]
end
section
variable {P:Program} [Tb P] {F:Fd}{n:PostD}{x:Nat->PostD}{a:LO}{o o1:LQ}{ops:Array Oper}{rest:LR}
variable {k T:Nat}{ty:TypeId}{pos:String}{af:Array Edge}{xo yo vo:Operand}{α:Type} [DecidableEq α] {u:TypeDesc}{mk:α->Value}{es:List α}{s:α}
theorem MuP (hK:KeyOk u mk) (hsb:Instr.sameBits 10000 (mk s) (mk s)=true) (hx:evA a xo=some (.mp k)) (hy:evA a yo=some (.d (.v (mk s)))) (hv:evA a vo=some (.d (.v (.bool true)))) (hk:lkO o k=some (.set (es.map mk))) (hn:(es.any λt=>decide (t=s))=true) (hT:mapT P T u=true) (hdel:delQ o k=some o1)
 (kk:JLD P F ops n x rest a ((k,.set (es.map mk))::o1)):JLD P F ops n x (⟨none,.mapUpdate T xo yo vo,ty,pos,af,none⟩::rest) a o:=.mk λρ h S L cz=>by
 obtain rfl:=gv hdel;obtain⟨v,h1,h2⟩:=cE cz hx;cases h2;obtain⟨y,L',hD,⟨arr,cl,rfl,he⟩,hr⟩:=cz.o.get hk;refine JL.putSetP hK hsb hT h1 (dv cz hy) (dv cz hv) hD he hn (λarr' he'=>?_);exact kk.k ρ h S _ ⟨cz.t,cz.s,_,L',U,⟨_,_,U,he'⟩,hr⟩
end
theorem sb_int (i:Int):Instr.sameBits 10000 (i64V i) (i64V i)=true:=by simp [Instr.sameBits]
theorem mGo_in (y:Int):∀ (k:Nat) (d:Int) (m:Nat),0<=d->1<=m->m<=12->13<=k+m->d+mdays y (m-1)<mdays y 12->∃ n:Nat,(mGo y k d m).2=n/\1<=n/\n<=12/\0<=(mGo y k d m).1/\(mGo y k d m).1<monthI y n
 |0,d,m,h0,h1,h2,h3,h4=>by omega
 |k+1,d,m,h0,h1,h2,h3,h4=>by
  have e:mdays y m=mdays y (m-1)+monthI y m:=by
   obtain⟨m',rfl⟩:∃ m',m=m'+1:=⟨m-1,by omega⟩;simp [mdays]
  unfold mGo;by_cases h:monthI y m<=d
  ·rw [if_pos h];have hm:m≠12:=by rintro rfl;omega
   have:=mGo_in y k (d-monthI y m) (m+1) z2_ z2_ z2_ z2_ (by rw [Nat.add_sub_cancel];omega);exact this
  ·rw [if_neg h];exact⟨m,U,h1,h2,h0,by omega⟩
theorem year_len (y:Int) (h0:0<=y):beforeI (y+1)=beforeI y+mdays y 12:=by
 have hm:mdays y 12=337+monthI y 2:=by
  simp [mdays,monthI];omega
 rw [hm];unfold beforeI monthI leapB;rw [if_neg z2_,if_pos rfl];by_cases h:y=0
 ·subst h;rfl
 ·rw [if_neg h];split<;>rename_i hl<;>simp only [Bool.and_eq_true,Bool.or_eq_true,ax,Bool.not_eq_true',decide_eq_false_iff_not] at hl<;>omega
theorem date_in (t:Int) (h0:-62167219200<=t/\t<=253402300799):1<=(dateO t).2.1/\(dateO t).2.1<=12/\1<=(dateO t).2.2/\(dateO t).2.2<=monthI (dateO t).1 (dateO t).2.1:=by
 obtain⟨h1,h2,h3⟩:=gE t h0;have h4:=year_len (yearO t) h1;obtain⟨n,e1,e2,e3,e4,e5⟩:=mGo_in (yearO t) 400 (dayO t-beforeI (yearO t)) 1 z2_ z2_ z2_ z2_ (by rw [show mdays (yearO t) (1-1)=0 from rfl];omega);unfold dateO;simp only;have e6:((1:Nat):Int)=1:=rfl;rw [e6] at e1 e4 e5;rw [e1];omega
def set1N (x:Nd):Nd:=if x.put.isSome then .mk 0 17 true [] [x] else ndZ0
def set1E (x:Nd):Int:=if x.put.isSome then 0 else 34
theorem set1_eq (x:Nd):(setF [x]).1=set1N x/\(setF [x]).2=set1E x:=by
 unfold set1N set1E;rcases pw [x] with ⟨⟨y,hy,hb⟩,h2,h3⟩|⟨l0,L,h1,h2,h3,h4,h5⟩
 ·rw [List.mem_singleton] at hy;subst hy;rw [hb];exact⟨h2,h3⟩
 ·have e:=h1.eq;have hp:x.put=some (x.put.getD []):=h1.2 (x.put.getD [],x) (by rw [e];exact List.mem_singleton.2 U);rw [e] at h2;rw [List.perm_singleton.1 h2] at h4;rw [h4,h5,hp];exact⟨U,U⟩
theorem set1_d (x:Nd) (hz:x.sz<=19000000):FnD prog 65 [.nds [x]] (.tup [.nd (set1N x),.i (set1E x)]):=by
 have:=pset_d [x] (by simp) (by simp only [Nd.szL];omega);rwa [(set1_eq x).1,(set1_eq x).2] at this
instance:Cn prog 65 (type_of% @set1_d):=⟨@set1_d⟩
def atS (a:At):Nd:=.mk 0 16 true [] [oiN a.oid,.mk 0 a.kind false a.text []]
def atN (a:At):Nd:=set1N (atS a)
def nameB (l:List At):Bool:=decide ((l.length:Int)<=16)&&l.all rightAt
def nameN (l:List At):Nd:=if nameB l then .mk 0 16 true [] (l.map atN) else ndZ0
def nameE (l:List At):Int:=if nameB l then 0 else 61
theorem atS_sz (a:At):(atS a).sz<=11*a.oid.length+a.text.length+30:=by
 have:=dZ a.oid;simp only [atS,Nd.sz,Nd.szL,aG];omega
theorem Rt0 {P:Program} [Tb P] {e:Env}{m:Nat}{fn:Func}{R:D->Prop}{n:PostD}{x:Nat->PostD}{a a1:LO}{o o1:LQ}{d:D}(hp:pubs (ksO o) a o=some (a1,o1)) (hr:resL P a1 o1 fn.results.toList []=some [d]) (hR:R d):JD P (FE P e m fn R) .ret n x a o:=.mk λρ h S L cz ac w s=>by
 obtain⟨h',L',hle,hok,cz'⟩:=eY hp cz s.ok;obtain⟨vs,h1,h2⟩:=nP (e:=e) (m:=m) cz' hr;have hrun:∀ ac w,Sat e m S h' L' ac w->(fn.results.mapM (relem ac.tmps)).run P w=.ok vs.toArray w:=λac w s=>by
  have:=h2 ac w s;rw [Array.mapM_eq_mapM_toList];simp [this]
 unfold DenT at h1;obtain⟨v,t,rfl,h3,h4⟩:=h1;unfold DenT at h4;subst h4;exact dE (f:=(FE P e m fn R).fr P) (n:=up P n) (x:=λi=>up P (x i)) ⟨v,[],L',λac w s=>by rw [eX];simp [hrun ac w s],.nil,v,U,U,_,hR,h3⟩ ac w (s.with hok)
abbrev nilK:D:=.v (.slice none 0 0)
theorem own0_d:FnD prog 62 [.nds []] nilK:=by
 refine aE func62 U ntmps62 U (λe=>?_);refine W ?_;refine Lp (γ:=Unit) (λ_=>True) (λ_=>0) (λ_=>[(3,.d nilK),(7,.d (.i 0)),(8,.d (.i 0))]) (λ_=>[]) () trivial ⟨U,U,U,trivial⟩ trivial ?_;rintro _ _;refine W ?_;exact Rt0 U U U
theorem cons0_d (c t:Int):FnD prog 23 [.i c,.i t,.nds []] (.st [.i c,.i t,.v (.bool true),nilK,nilK]):=by
 have h0:=own0_d;refine aE func23 U ntmps23 U (λe=>?_);refine W ?_;exact Rt0 U U U
theorem seq0_d:FnD prog 66 [.nds []] (.st [.i 0,.i 16,.v (.bool true),nilK,nilK]):=by
 have h0:=cons0_d 0 16;refine aE func66 U ntmps66 U (λe=>?_);refine W ?_;exact Rt0 U U U
theorem iD (l:List At) (hl:l.length<=1000000) (hB:∀ a∈l,a.oid.length<=1000000/\a.text.length<=1000000):FnD prog 72 [.sl 3 At.enc l] (.tup [.nd (nameN l),.i (nameE l)]):=by
 have bad:nameB l=false->resD [.nd ndZ0,.i 61]=.tup [.nd (nameN l),.i (nameE l)]:=λhb=>by simp [resD,nameN,nameE,hb]
 have hq0:=seq0_d;refine aE func72 U ntmps72 U (λe=>?_);refine W ?_;refine Ci U (λh1=>?_) (λh1=>?_)
 ·refine W ?_;exact Rt U U (bad (by simp [nameB,show ¬ (l.length:Int)<=16 by omega]))
 refine W ?_;refine Rv kN 1 4 35 U U U U U U ?_;refine Lp (γ:=Nat) (λg=>g<=l.length/\(l.take g).all rightAt=true) (λg=>l.length+1-g)
  (λg=>[(2,.own 0 0),(4,.own 1 0),(16,.d (.sl 3 At.enc l)),(17,.d (.i (l.length:Int))),(18,.d (.i (g:Int)))])
  (λg=>[(1,.var 35 [.d (.i 0),.d (.i 16),.d (.v (.bool true)),.d nilK,.row 2]),(2,.row 35 (.nds ((l.take g).map atN))),(0,.var 35 [.d (.i 0),.d (.i 0),.d (.b false),.d nilK,.d nilK])]) 0 ⟨by omega,U⟩ ⟨U,U,U,U,U,trivial⟩ ⟨U,U,U,trivial⟩ ?_
 rintro g ⟨hg,hall⟩;have hml:((l.take g).map atN).length<=1000000:=by rw [aD];have:=List.length_take_le' g l;omega
 refine W ?_;refine Ci U (λh=>?_) (λh=>?_)
 ·have hlt:g<l.length:=by omega
  have hget:l.getD g default=l[g]:=bG hlt;obtain⟨b1,b2⟩:=hB _ (aF hlt);rw [<- hget] at b1 b2;have o1:=dZ (l.getD g default).oid;have o2:=atS_sz (l.getD g default);have c0:=m5 (l.getD g default) z2_;have c1:=vi [oiN (l.getD g default).oid,.mk 0 (l.getD g default).kind false (l.getD g default).text []] (by simp only [Nd.szL,Nd.sz];omega);have c2:=set1_d (atS (l.getD g default)) z2_;have htk:(l.take (g+1)).map atN=(l.take g).map atN++[atN (l.getD g default)]:=by rw [am hlt,List.map_append,hget];rfl
  have hta:(l.take (g+1)).all rightAt=rightAt (l.getD g default):=by rw [am hlt,List.all_append,hall,hget];simp
  refine W ?_;refine Ci U (λh2=>?_) (λh2=>?_)
  ·refine W ?_;refine Rt U U (bad ?_);have:l.all rightAt=false:=by
    rw [List.all_eq_false];exact⟨l[g],aF hlt,by rw [<- hget,h2];simp⟩
   simp [nameB,this]
  refine W ?_;refine⟨g+1,by omega,⟨by omega,by rw [hta,h2]⟩,⟨U,U,U,U,U,trivial⟩,?_⟩;show WkO [(1,.var 35 [.d (.i 0),.d (.i 16),.d (.v (.bool true)),.d nilK,.row 2]),(2,.row 35 (.nds ((l.take (g+1)).map atN))),(0,.var 35 [.d (.i 0),.d (.i 0),.d (.b false),.d nilK,.d nilK])] _;rw [htk];exact⟨U,U,U,trivial⟩
 ·have hge:g=l.length:=by omega
  subst hge;rw [List.take_length] at hall;rw [List.take_length];have hb:nameB l=true:=by simp [nameB,hall];omega
  refine Pb 2 U ?_;refine W ?_;refine Rt U U ?_;simp only [resD,nameN,nameE,hb,if_true]
instance:Cn prog 72 (type_of% @iD):=⟨@iD⟩
theorem nK (t:Int) (b:Txt) (hb:b.length<=10000000):FnD prog 113 [.i t,.bs b] (.b (valB t b)):=.mk λh vs hT hd=>by
 obtain⟨v,w,rfl,h1,h2⟩:=den2 hd;obtain⟨a,cc,rfl,hR⟩:=dm.1 h2;rw [dB.1 h1];exact(py hR z2_).d ((dH (h:=h)).2 U)
instance:Cn prog 113 (type_of% @nK):=⟨@nK⟩
theorem lZ (s:Txt) (hs:s.length<=1000000000):FnD prog 263 [.s s] (.b (oidB s).isSome):=by
 exact aE func263 U ntmps263 U (λe=>Z)
instance:Cn prog 263 (type_of% @lZ):=⟨@lZ⟩
def rightAtR (a:At):Bool:=(oidB a.oid).isSome&&!decide (200<(a.text.length:Int))&&(decide (a.kind=12)||decide (a.kind=19)||decide (a.kind=22))&&valB a.kind a.text
theorem kQ (a:At):rightAtR a=rightAt a:=by
 unfold rightAtR rightAt;have e:(!decide (200<(a.text.length:Int)))=decide (a.text.length<=200):=by
  rw [Bool.eq_iff_iff];simp;omega
 rw [e];cases (oidB a.oid).isSome<;>cases decide (a.text.length<=200)<;>simp;by_cases h1:a.kind=12
 ·simp [h1,r_ rfl]
 by_cases h2:a.kind=19
 ·simp [h2,r9 rfl]
 by_cases h3:a.kind=22
 ·simp [h3,r8 rfl]
 simp [h1,h2,h3]
theorem jR (a:At) (h1:a.oid.length<=1000000) (h2:a.text.length<=1000000):FnD prog 236 [.st (At.enc a)] (.b (rightAtR a)):=by
 have hv:=nK a.kind a.text z2_;unfold rightAtR;exact aE func236 U ntmps236 U (λe=>Z)
instance:Cn prog 236 (type_of% @jR):=⟨@jR⟩
def atM (a:At):Nd:=.mk 0 17 true [] [atS a]
def nameM (l:List At):Nd:=if nameB l then .mk 0 16 true [] (l.map atM) else ndZ0
theorem fY (l:List At) (hl:l.length<=1000000) (hB:∀ a∈l,a.oid.length<=1000000/\a.text.length<=1000000):FnD prog 180 [.sl 3 At.enc l] (.tup [.nd (nameM l),.i (nameE l)]):=by
 have bad:nameB l=false->resD [.nd ndZ0,.i 61]=.tup [.nd (nameM l),.i (nameE l)]:=λhb=>by simp [resD,nameM,nameE,hb]
 refine aE func180 U ntmps180 U (λe=>?_);refine W ?_;refine Rn kN 4 35 U U ?_;refine Lp (γ:=Nat) (λg=>g<=l.length/\g<=16/\(l.take g).all rightAt=true) (λg=>l.length+1-g)
  (λg=>[(0,.d (.sl 3 At.enc l)),(2,.own 0 0),(4,.row 1),(5,.d (.i (g:Int)))])
  (λg=>[(1,.row 35 (.nds ((l.take g).map atM))),(0,.var 35 [.d (.i 0),.d (.i 0),.d (.b false),.d nilK,.d nilK])]) 0 ⟨by omega,by omega,U⟩ ⟨U,U,U,U,trivial⟩ ⟨U,U,trivial⟩ ?_
 rintro g ⟨hg,hg16,hall⟩;have hml:((l.take g).map atM).length<=1000000:=by rw [aD];have:=List.length_take_le' g l;omega
 refine W ?_;refine Ci U (λh=>?_) (λh=>?_)
 ·have hlt:g<l.length:=by omega
  have hget:l.getD g default=l[g]:=bG hlt;obtain⟨b1,b2⟩:=hB _ (aF hlt);rw [<- hget] at b1 b2;have c0:=jR (l.getD g default) b1 b2;rw [kQ] at c0;have c1:=kK (s:=(l.getD g default).oid) b1;have htk:(l.take (g+1)).map atM=(l.take g).map atM++[atM (l.getD g default)]:=by rw [am hlt,List.map_append,hget];rfl
  have hta:(l.take (g+1)).all rightAt=rightAt (l.getD g default):=by rw [am hlt,List.all_append,hall,hget];simp
  refine W ?_;refine Bg U U (λh3=>?_) (λh3=>?_)
  ·refine W ?_;refine Rt U U (bad ?_);simp [nameB,show ¬ (l.length:Int)<=16 by omega]
  refine W ?_;refine Ci U (λh2=>?_) (λh2=>?_)
  ·refine W ?_;refine Rt U U (bad ?_);have:l.all rightAt=false:=by
    rw [List.all_eq_false];exact⟨l[g],aF hlt,by rw [<- hget,h2];simp⟩
   simp [nameB,this]
  refine W ?_;refine Pl 3 U ?_;refine W ?_;refine⟨g+1,by omega,⟨by omega,by omega,by rw [hta,h2]⟩,⟨U,U,U,U,trivial⟩,?_⟩;show WkO [(1,.row 35 (.nds ((l.take (g+1)).map atM))),(0,.var 35 [.d (.i 0),.d (.i 0),.d (.b false),.d nilK,.d nilK])] _;rw [htk];exact⟨U,U,trivial⟩
 ·have hge:g=l.length:=by omega
  subst hge;rw [List.take_length] at hall;rw [List.take_length];have hb:nameB l=true:=by simp [nameB,hall];omega
  have c2:=mQ (l:=l.map atM);refine Pb 1 U ?_;refine W ?_;refine Rt U U ?_;simp only [resD,nameM,nameE,hb,if_true]
instance:Cn prog 180 (type_of% @fY):=⟨@fY⟩
theorem put_okN {c t:Int}{k:Bool}{b:Txt}{ks:LN}(h:(Nd.mk c t k b ks).put.isSome=true):okN c t k b ks=true/\(Nd.putL (decide (c=0)&&decide (t=17)) ks none b).isSome=true:=by
 simp only [Nd.put] at h;split at h
 ·exact⟨by assumption,by simpa using h⟩
 ·cases h
theorem rC {n:Nd}(h:n.put.isSome=true):(n.cons=true->n.bytes=[])/\(n.cons=false->n.kids=[]):=by
 obtain⟨c,t,k,b,ks⟩:=n;obtain⟨h1,_⟩:=put_okN h;unfold okN at h1;simp only [nd3,nd4,nd5];constructor
 ·rintro rfl;simp at h1;exact h1.2
 ·rintro rfl;simp at h1;exact h1.2.1
theorem jg {t:Int}{b:Txt}(hm:mayB 0 t false=true) (hv:valB t b=true):(Nd.mk 0 t false b []).put.isSome=true:=by
 have h3:okN 0 t false b []=true:=by simp [okN,hm,hv]
 simp only [Nd.put,h3,if_true,Option.isSome_map];rw [fw];simp [ordB,OrdK]
theorem kq {t:Int}{ks:LN}(ht:0<=t/\t<=30):(Nd.mk 2 t true [] ks).put.isSome=ks.all (·.put.isSome):=by
 have h:okN 2 t true [] ks=true:=by simp [okN,mayB,ht]
 rw [Nd.put,if_pos h,Option.isSome_map,show(decide ((2:Int)=0)&&decide (t=17))=false by simp,fw];simp
theorem ctxp_put {t:Int}{b:Txt}(ht:0<=t/\t<=30):(Nd.mk 2 t false b []).put.isSome=true:=by
 have h3:okN 2 t false b []=true:=by simp [okN,mayB,ht]
 simp only [Nd.put,h3,if_true,Option.isSome_map];rw [fw];simp
theorem ib_beV:∀ (r:Txt) (m:Int),ibytes (m*256 ^ r.length+(beV r:Int)) r.length=r
 |[],m=>rfl
 |x::t,m=>by
  have h1:(0:Int)<256 ^ t.length:=Int.pow_pos bT;have h2:(beV t:Int)<256 ^ t.length:=by exact_mod_cast uM t
  have e:m*256 ^ (x::t).length+(beV (x::t):Int)=(m*256+x.toNat)*256 ^ t.length+(beV t:Int):=by
   rw [jL,aC,Int.pow_succ,dT,Int.natCast_mul,Int.natCast_pow];show m*(256 ^ t.length*256)+((x.toNat:Int)*256 ^ t.length+_)=_;grind
  have hd:((m*256+x.toNat)*256 ^ t.length+(beV t:Int)) / 256 ^ t.length=m*256+x.toNat:=by
   rw [Int.add_comm,Int.add_mul_ediv_right _ _ z2_,Int.ediv_eq_zero_of_lt z2_ h2,Int.zero_add]
  have hx:=UInt8.toNat_lt x;rw [e,aC,ibytes,hd,ib_beV t (m*256+x.toNat)];congr 1;rw [show((m*256+(x.toNat:Int)) % 256).toNat=x.toNat by omega];exact UInt8.ofNat_toNat
theorem sV_cons (x:UInt8) (r:Txt):sV (x::r)=s8 x.toNat*256 ^ r.length+(beV r:Int):=rfl
theorem int_there {x:Nd}(h:x.intOk=true) (ht:x.tag=2):x=.mk 0 2 false (intB x.intV) []:=by
 obtain⟨c,t,k,bs,ks⟩:=x;rw [ue h];rw [gq,Bool.and_eq_true,ax] at h;obtain⟨hw,h8⟩:=h;obtain⟨rfl,_,rfl,rfl,hl⟩:=gG.1 hw;simp only [nd2] at ht;subst ht;congr 1;cases bs with
 |nil=>simp [leastB] at hl
 |cons x r =>
  have hx:=UInt8.toNat_lt x;have hp:(0:Int)<256 ^ r.length:=Int.pow_pos bT;have hr:(beV r:Int)<256 ^ r.length:=by exact_mod_cast uM r
  have hs:-128<=s8 x.toNat/\s8 x.toNat<=127:=s8_bd _ hx;have hdv:sV (x::r) / 256 ^ r.length=s8 x.toNat:=by
   rw [sV_cons,Int.add_comm,Int.add_mul_ediv_right _ _ z2_,Int.ediv_eq_zero_of_lt z2_ hr,Int.zero_add]
  have hib:ibytes (sV (x::r)) (r.length+1)=x::r:=by
   rw [ibytes,hdv,sV_cons,ib_beV];congr 1;rw [show(s8 x.toNat % 256).toNat=x.toNat by unfold s8;split<;>omega];exact UInt8.ofNat_toNat
  have hfit:fitI (sV (x::r)) (r.length+1):=by
   unfold fitI;rw [Nat.add_sub_cancel,hdv];omega
  simp only [aC] at h8;rw [js _ r.length z2_ ?_ hfit,hib];cases r with
  |nil=>exact .inl U
  |cons y t =>
   right;have:=oC (sV (x::y::t)) t.length hfit;rw [show t.length+2=(y::t).length+1 from rfl,hib,hl] at this;simpa using this.symm
theorem md {n:Nd}(h:(oidOf n).2=true):oiN (oidOf n).1=n/\(oidOf n).1=(oidT n.bytes).getD []/\(oidB (oidOf n).1).isSome=true:=by
 unfold oidOf at h |-
 split at h
 ·rename_i hb;rw [if_pos hb];obtain⟨h1,h2,_⟩:=jr hb bT;simp only at h |-
  obtain⟨s,hs⟩:=Option.isSome_iff_exists.1 h;rw [hs,Option.getD_some];have:=oid_rt hs;simp only [isB,Bool.and_eq_true,ax] at hb;refine⟨?_,trivial,by rw [this];rfl⟩;obtain⟨c,t,k,b,ks⟩:=n;simp only [nd1,nd2,nd3,nd4,nd5] at *;obtain⟨⟨rfl,rfl⟩,_⟩:=hb;subst h1 h2;unfold oiN;rw [this];rfl
 ·cases h
theorem m6 {a:At}(h:rightAt a=true):(atS a).put.isSome=true:=by
 rw [<- kQ] at h;unfold rightAtR at h;simp only [Bool.and_eq_true,Bool.or_eq_true,ax] at h;obtain⟨⟨⟨h1,_⟩,h3⟩,h4⟩:=h;unfold atS;rw [ee];simp only [List.all_cons,List.all_nil,gQ h1,Bool.true_and,Bool.and_true];obtain⟨o,k,t⟩:=a;simp only at *;rcases h3 with (rfl|rfl)|rfl<;>exact jg bT h4
theorem atM_put {a:At}(h:rightAt a=true):(atM a).put.isSome=true:=by
 unfold atM;rw [nZ];simp only [List.all_cons,List.all_nil,m6 h,List.map_cons,List.map_nil,Bool.and_true,Bool.true_and];simp [ordB,OrdK]
theorem atN_atM {a:At}(h:rightAt a=true):atN a=atM a:=by
 unfold atN set1N atM;rw [if_pos (m6 h)]
theorem k7 (l:List At):nameN l=nameM l:=by
 unfold nameN nameM;by_cases h:nameB l=true
 ·rw [if_pos h,if_pos h];congr 1;refine List.map_congr_left λa ha=>atN_atM ?_;unfold nameB at h;rw [Bool.and_eq_true] at h;exact List.all_eq_true.1 h.2 a ha
 ·rw [if_neg h,if_neg h]
theorem lj {l:List At}:nameE l=0<->nameB l=true:=by
 unfold nameE;cases nameB l<;>simp
theorem jn {l:List At}(h:nameB l=true):(nameN l).put.isSome=true:=by
 rw [k7];unfold nameM;rw [if_pos h,ee,List.all_map,List.all_eq_true];intro a ha;unfold nameB at h;rw [Bool.and_eq_true] at h;exact atM_put (List.all_eq_true.1 h.2 a ha)
theorem pf {h:Int}(hh:someH h):(algN h).put.isSome=true:=by
 rcases hh with rfl|rfl|rfl<;>kernel_rfl
theorem uv {h:Int}(hh:someH h):(digN' h).put.isSome=true:=by
 rcases hh with rfl|rfl|rfl<;>kernel_rfl
def sBits (s:Sg):Nat:=nbits (d32 s.serial) s.serial.length
def whoOk (s:Sg):Bool:=if 0<(s.ski.length:Int) then !decide (64<(s.ski.length:Int))&&!decide (0<(sBits s:Int))&&!decide (0<(s.issuer.length:Int)) else !decide ((sBits s:Int)=0)&&!decide (160<(sBits s:Int))&&decide (nameE s.issuer=0)
def rightSg (s:Sg):Bool:=whoOk s&&decide (0<shaSize s.hash)&&rfP s.signed&&rfP s.unsigned&&decide (1<=(s.sig.length:Int))&&decide ((s.sig.length:Int)<=512)
def whoN (s:Sg):Nd:=if 0<(s.ski.length:Int) then .mk 2 0 false s.ski [] else .mk 0 16 true [] [nameN s.issuer,natN s.serial]
def verN (s:Sg):Int:=if 0<(s.ski.length:Int) then 3 else 1
def ctxF (t:Int) (l:List Fe):Nd:=.mk 2 t true [] (l.map fieldN)
def optN (t:Int) (l:List Fe):LN:=if l=[] then [] else [ctxF t l]
def octN (b:Txt):Nd:=.mk 0 4 false b []
def sgK (s:Sg):LN:=.mk 0 2 false (intB (verN s)) []::whoN s::digN' s.hash::(optN 0 s.signed++algN s.hash::octN s.sig::optN 1 s.unsigned)
def sgN (s:Sg):Nd:=if rightSg s then .mk 0 16 true [] (sgK s) else ndZ0
def sgE (s:Sg):Int:=if rightSg s then 0 else 60
theorem nO {l:List Fe}(h:rfP l=true):l.length<=16:=by
 unfold rfP at h;split at h
 ·cases h
 ·omega
theorem rfP_ok {l:List Fe}(h:rfP l=true):∀ f∈l,fnOk f=true:=by
 unfold rfP at h;split at h
 ·cases h
 ·split at h
  ·cases h
  ·exact λf hf=>mu.1 (th l [] h f hf)
theorem k_ (n:Int) (h0:-9223372036854775808<=n) (h1:n<=9223372036854775807):(Nd.mk 0 2 false (intB n) []).put.isSome=true:=by
 have h:=(eO n h0 h1).1;rw [gq,Bool.and_eq_true] at h;have h2:=h.1;unfold Nd.whole at h2;simp only [Bool.and_eq_true] at h2;exact h2.2
theorem qk {h:Int}(k:0<shaSize h):someH h:=by
 unfold shaSize at k;split at k
 ·assumption
 ·omega
theorem ctxF_put {t:Int}{l:List Fe}(ht:0<=t/\t<=30) (h:rfP l=true):(ctxF t l).put.isSome=true:=by
 unfold ctxF;rw [kq ht,List.all_map,List.all_eq_true];exact λf hf=>n_ (rfP_ok h f hf)
theorem dD (t:Int):optN t []=[]:=rfl
theorem ef {t:Int}{l:List Fe}(h:l≠[]):optN t l=[ctxF t l]:=if_neg h
theorem fj {l:List Fe}(h:0<(l.length:Int)):l≠[]:=by rintro rfl;simp at h
theorem rg {h:Part}{cs:LV}{x:UInt32}:u32R h cs x<->DenL (u32E x) h cs:=by
 constructor
 ·rintro rfl;exact⟨_,_,U,U,U,U⟩
 ·rintro⟨_,_,rfl,_,e1,e2⟩;unfold Den at e1;unfold DenL at e2;subst e1 e2;rfl
theorem gU {h:Part}{x:Value}{l:List UInt32}:Den (.ws l) h x<->∃ a c,x=.slice a l.length c/\SlR u32R 1 h a c l:=by
 rw [iE];constructor
 ·rintro⟨a,c,e,r⟩;exact⟨a,c,e,r.imp U (aT h) (λi p q cs h1 h2 h3=>by rw [h1] at h2;cases h2;exact rg.2 h3)⟩
 ·rintro⟨a,c,e,r⟩;exact⟨a,c,e,r.imp U (aT h) (λi p q cs h1 h2 h3=>by rw [h1] at h2;cases h2;exact rg.1 h3)⟩
abbrev nbitsI (l:List UInt32):Int:=(nbits (d32 l) l.length:Nat)
theorem qe (l:List UInt32):FnD prog 84 [.ws l] (.i (nbitsI l)):=.mk λh vs hT hd=>by
 obtain⟨v,rfl,h1⟩:=gB hd;obtain⟨a,c,rfl,hR⟩:=gU.1 h1;exact(fx hR).d (cj (h:=h))
instance:Cn prog 84 (type_of% @qe):=⟨@qe⟩
theorem jS (l:List UInt32) (hl:l.length<=1000000):FnD prog 234 [.ws l] (.i (nbitsI l)):=.mk λh vs hT hd=>by
 obtain⟨v,rfl,h1⟩:=gB hd;obtain⟨a,c,rfl,hR⟩:=gU.1 h1;exact(ig hR hl).mono λv h' _ e=>⟨_,U,by rw [e];exact cj (h:=h')⟩
instance:Cn prog 234 (type_of% @jS):=⟨@jS⟩
theorem jx (l:List UInt32) (hl:l.length<=4096):FnD prog 73 [.ws l] (.nd (natN l)):=.mk λh vs hT hd=>by
 obtain⟨v,rfl,h1⟩:=gB hd;obtain⟨a,c,rfl,hR⟩:=gU.1 h1;exact(mv hR hl).mono λv h' _ ⟨cs,e,r⟩=>⟨_,U,by rw [e];exact(dP (h:=h')).2 ⟨cs,U,r⟩⟩
instance:Cn prog 73 (type_of% @jx):=⟨@jx⟩
theorem pJ (l:List UInt32) (hl:l.length<=4096):FnD prog 181 [.ws l] (.nd (natN l)):=.mk λh vs hT hd=>by
 obtain⟨v,rfl,h1⟩:=gB hd;obtain⟨a,c,rfl,hR⟩:=gU.1 h1;exact(rz hR hl).mono λv h' _ ⟨cs,e,r⟩=>⟨_,U,by rw [e];exact(dP (h:=h')).2 ⟨cs,U,r⟩⟩
instance:Cn prog 181 (type_of% @pJ):=⟨@pJ⟩
theorem kP (n:Int) (h0:-9223372036854775808<=n) (h1:n<=9223372036854775807):FnD prog 36 [.i n] (.nd (.mk 0 2 false (intB n) [])):=.mk λh vs hT hd=>by
 obtain⟨v,rfl,h2⟩:=gB hd;rw [dB.1 h2];exact(rint_fn h0 h1).mono λv h' _ ⟨cs,e,r⟩=>⟨_,U,by rw [e];exact(dP (h:=h')).2 ⟨cs,U,r⟩⟩
instance:Cn prog 36 (type_of% @kP):=⟨@kP⟩
instance:Cn prog 102 (type_of% @oG):=⟨@oG⟩
theorem rcmp_d (a b:List UInt32) (ha:a.length<=1000000) (hb:b.length<=1000000):FnD prog 279 [.ws a,.ws b] (.i (cmpI3 (vL a) (vL b))):=.mk λh vs hT hd=>by
 obtain⟨v,w,rfl,h1,h2⟩:=den2 hd;obtain⟨_,_,rfl,hR⟩:=gU.1 h1;obtain⟨_,_,rfl,hR'⟩:=gU.1 h2;exact(rK hR hR' ha hb).mono λv h' _ e=>⟨_,U,by rw [e];exact cj (h:=h')⟩
abbrev z7:List D:=[.v (.slice none 0 0),.v (.slice none 0 0),.v (.slice none 0 0),.i 0,.v (.slice none 0 0),.v (.slice none 0 0),.v (.slice none 0 0)]
structure SgW (s:Sg):Prop where
 isu:s.issuer.length<=1000000
 isuB:∀ a∈s.issuer,a.oid.length<=1000000/\a.text.length<=1000000
 ser:s.serial.length<=4096
 sgd:s.signed.length<=400000
 sgdB:∀ f∈s.signed,FeS f
 uns:s.unsigned.length<=400000
 unsB:∀ f∈s.unsigned,FeS f
theorem na (s:Sg) (h:SgW s):FnD prog 43 [.st s.enc] (.b (rightSg s)):=by
 obtain⟨b1,b2,b3,b4,b5,b6,b7⟩:=h;have c1:=iD s.issuer b1 b2;have c2:=f5 s.signed b4 b5;have c3:=f5 s.unsigned b6 b7;unfold rightSg whoOk sBits;exact aE func43 U ntmps43 U (λe=>Z)
theorem vl (s:Sg) (h:SgW s):FnD prog 179 [.st s.enc] (.b (rightSg s)):=by
 obtain⟨b1,b2,b3,b4,b5,b6,b7⟩:=h;have c0:=jS s.serial z2_;have c1:=fY s.issuer b1 b2;have c2:=f0 s.signed b4 b5;rw [rf_same b5] at c2;have c3:=f0 s.unsigned b6 b7;rw [rf_same b7] at c3;unfold rightSg whoOk sBits;exact aE func179 U ntmps179 U (λe=>Z)
theorem fX {α:Type}(f:α->Nd) (B:Nat):∀ (l:List α),(∀ x∈l,(f x).sz<=B)->Nd.szL (l.map f)<=l.length*B
 |[],_=>by simp [Nd.szL]
 |x::r,h=>by
  have h1:=h x (aK ..);have h2:=fX f B r (λy hy=>h y (aP _ hy));simp only [List.map_cons,Nd.szL,aC,Nat.add_mul];omega
theorem ou {l:List At}(hB:∀ a∈l,a.oid.length<=1000000/\a.text.length<=1000000):(nameN l).sz<=300000000:=by
 rw [k7];unfold nameM;split
 ·rename_i h;unfold nameB at h;rw [Bool.and_eq_true,ax] at h;have h1:=fX atM 12000100 l (λa ha=>by
   have h2:=atS_sz a;obtain⟨b1,b2⟩:=hB a ha;simp only [atM,Nd.sz,Nd.szL,aG];omega)
  have h3:l.length*12000100<=16*12000100:=bD _ z2_;simp only [Nd.sz,aG];omega
 ·simp [ndZ0,Nd.sz,Nd.szL]
theorem k6 (l:List UInt32) (h:l.length<=4096):(natN l).sz<=20000:=by
 have h1:=(fp l).2.2;have h2:=bl_len l;omega
theorem ss (h:Int):(digN' h).sz<=1000:=by
 have h1:=oi h;have h2:=dZ (oidH h);simp only [digN',Nd.sz,Nd.szL,aG];omega
theorem flds_sz {l:List Fe}(h:l.length<=16) (hB:∀ f∈l,FeS f):Nd.szL (l.map fieldN)<=17600000:=by
 have h1:=fX fieldN 1100000 l (λf hf=>jv (hB f hf));have h2:l.length*1100000<=16*1100000:=bD _ h;omega
theorem ft (s:Sg) (hw:SgW s):FnD prog 30 [.st s.enc] (.tup [.nd (sgN s),.i (sgE s)]):=by
 have hr0:=na s hw;cases hr:rightSg s with
 |false =>
  rw [hr] at hr0;refine aE func30 U ntmps30 U (λe=>?_);refine W ?_;refine Rt U U ?_;simp only [resD,sgN,sgE,hr];rfl
 |true =>
  rw [hr] at hr0;obtain⟨b1,b2,b3,b4,b5,b6,b7⟩:=hw;have hrr:=hr;simp only [rightSg,Bool.and_eq_true,ax] at hrr;obtain⟨⟨⟨⟨⟨r1,r2⟩,r3⟩,r4⟩,r5⟩,r6⟩:=hrr;have bk:s.ski.length<=64:=by
   unfold whoOk at r1;split at r1
   ·simp only [Bool.and_eq_true,Bool.not_eq_true',decide_eq_false_iff_not] at r1;omega
   ·omega
  have g1:=ou b2;have g2:=k6 s.serial b3;have g3:=ss s.hash;have g4:=flds_sz (nO r3) b5;have g5:=flds_sz (nO r4) b7;have c1:=iD s.issuer b1 b2;have c2:=jx s.serial b3;have c3:=uC [nameN s.issuer,natN s.serial] (by simp only [Nd.szL];omega);have c4:=fu s.signed b4 b5;have c5:=@jC 2 0 (s.signed.map fieldN) z2_;have c6:=fu s.unsigned b6 b7;have c7:=@jC 2 1 (s.unsigned.map fieldN) z2_;have i3:(intB 3).length<=8:=(eO 3 bT bT).2.2.1;have i1:(intB 1).length<=8:=(eO 1 bT bT).2.2.1;have res:∀ L,sgK s=L->resD [.nd (.mk 0 16 true [] L),.i 0]=.tup [.nd (sgN s),.i (sgE s)]:=λL hL=>by
   simp only [resD,sgN,sgE,hr,if_true,hL]
  have u0:∀ {l:List Fe},¬ 0<(l.length:Int)->l=[]:=λh=>List.eq_nil_of_length_eq_zero z2_;refine aE func30 U ntmps30 U (λe=>?_);refine W ?_;refine Ci U (λh2=>?_) (λh2=>?_)
  ·have h2:¬ 0<(s.ski.length:Int):=by omega
   refine W ?_;refine Xco (K:=kN) U U (uB [.mk 0 2 false (intB 1) [],(.mk 0 16 true [] [nameN s.issuer,natN s.serial]),digN' s.hash] (by simp only [Nd.szL,Nd.sz,aG];omega)) U ?_;refine RX1 U U ?_;refine df U ?_;refine W ?_;refine Ci U (λh3=>?_) (λh3=>?_)
   ·refine W ?_;refine Xap kN U U U U U U U (by simp) U U U ?_;refine RX1 U U ?_;refine df U ?_;refine Nvk 4 U U U U U ?_;refine W ?_;refine Xap kN U U U U U U U (by simp) U U U ?_;refine RX1 U U ?_;refine df U ?_;refine Nvk 4 U U U U U ?_;refine W ?_;refine Ci U (λh4=>?_) (λh4=>?_)
    ·refine W ?_;refine Xap kN U U U U U U U (by simp) U U U ?_;refine RX1 U U ?_;refine df U ?_;refine Nvk 4 U U U U U ?_;refine W ?_;refine Pl 4 U ?_;refine W ?_;refine Rt U U (res _ ?_);unfold sgK whoN verN;rw [if_neg (show ¬ 0<(s.ski.length:Int) by omega),if_neg (show ¬ 0<(s.ski.length:Int) by omega)];rw [ef (fj h3),ef (fj h4)];rfl
    ·refine W ?_;refine Pl 4 U ?_;refine W ?_;refine Rt U U (res _ ?_);unfold sgK whoN verN;rw [if_neg (show ¬ 0<(s.ski.length:Int) by omega),if_neg (show ¬ 0<(s.ski.length:Int) by omega)];rw [ef (fj h3),u0 h4,dD];rfl
   ·refine W ?_;refine Xap kN U U U U U U U (by simp) U U U ?_;refine RX1 U U ?_;refine df U ?_;refine Nvk 4 U U U U U ?_;refine W ?_;refine Ci U (λh4=>?_) (λh4=>?_)
    ·refine W ?_;refine Xap kN U U U U U U U (by simp) U U U ?_;refine RX1 U U ?_;refine df U ?_;refine Nvk 4 U U U U U ?_;refine W ?_;refine Pl 4 U ?_;refine W ?_;refine Rt U U (res _ ?_);unfold sgK whoN verN;rw [if_neg (show ¬ 0<(s.ski.length:Int) by omega),if_neg (show ¬ 0<(s.ski.length:Int) by omega)];rw [u0 h3,dD,ef (fj h4)];rfl
    ·refine W ?_;refine Pl 4 U ?_;refine W ?_;refine Rt U U (res _ ?_);unfold sgK whoN verN;rw [if_neg (show ¬ 0<(s.ski.length:Int) by omega),if_neg (show ¬ 0<(s.ski.length:Int) by omega)];rw [u0 h3,dD,u0 h4,dD];rfl
  ·have h2:0<(s.ski.length:Int):=by omega
   refine W ?_;refine Xco (K:=kN) U U (uB [.mk 0 2 false (intB 3) [],(.mk 2 0 false s.ski []),digN' s.hash] (by simp only [Nd.szL,Nd.sz,aG];omega)) U ?_;refine RX1 U U ?_;refine df U ?_;refine W ?_;refine Ci U (λh3=>?_) (λh3=>?_)
   ·refine W ?_;refine Xap kN U U U U U U U (by simp) U U U ?_;refine RX1 U U ?_;refine df U ?_;refine Nvk 3 U U U U U ?_;refine W ?_;refine Xap kN U U U U U U U (by simp) U U U ?_;refine RX1 U U ?_;refine df U ?_;refine Nvk 3 U U U U U ?_;refine W ?_;refine Ci U (λh4=>?_) (λh4=>?_)
    ·refine W ?_;refine Xap kN U U U U U U U (by simp) U U U ?_;refine RX1 U U ?_;refine df U ?_;refine Nvk 3 U U U U U ?_;refine W ?_;refine Pl 3 U ?_;refine W ?_;refine Rt U U (res _ ?_);unfold sgK whoN verN;rw [if_pos (show 0<(s.ski.length:Int) by omega),if_pos (show 0<(s.ski.length:Int) by omega)];rw [ef (fj h3),ef (fj h4)];rfl
    ·refine W ?_;refine Pl 3 U ?_;refine W ?_;refine Rt U U (res _ ?_);unfold sgK whoN verN;rw [if_pos (show 0<(s.ski.length:Int) by omega),if_pos (show 0<(s.ski.length:Int) by omega)];rw [ef (fj h3),u0 h4,dD];rfl
   ·refine W ?_;refine Xap kN U U U U U U U (by simp) U U U ?_;refine RX1 U U ?_;refine df U ?_;refine Nvk 3 U U U U U ?_;refine W ?_;refine Ci U (λh4=>?_) (λh4=>?_)
    ·refine W ?_;refine Xap kN U U U U U U U (by simp) U U U ?_;refine RX1 U U ?_;refine df U ?_;refine Nvk 3 U U U U U ?_;refine W ?_;refine Pl 3 U ?_;refine W ?_;refine Rt U U (res _ ?_);unfold sgK whoN verN;rw [if_pos (show 0<(s.ski.length:Int) by omega),if_pos (show 0<(s.ski.length:Int) by omega)];rw [u0 h3,dD,ef (fj h4)];rfl
    ·refine W ?_;refine Pl 3 U ?_;refine W ?_;refine Rt U U (res _ ?_);unfold sgK whoN verN;rw [if_pos (show 0<(s.ski.length:Int) by omega),if_pos (show 0<(s.ski.length:Int) by omega)];rw [u0 h3,dD,u0 h4,dD];rfl
instance:Cn prog 30 (type_of% @ft):=⟨@ft⟩
def nsM (m:Int):List At->Int->Int
 |[],n=>n
 |a::r,n=>if n<=m then nsM m r (n+1+a.oid.length+a.text.length) else n
theorem nsM_stop (m n:Int) (h:m<n):∀ l,nsM m l n=n
 |[]=>rfl
 |_::_=>if_neg z2_
def AtB (a:At):Prop:=a.oid.length<=140737488355328/\a.text.length<=140737488355328
theorem fy (l:List At) (m:Int) (h0:0<=m) (h1:m<=1000000000000) (hl:l.length<=140737488355328) (hB:∀ a∈l,AtB a):FnD prog 53 [.sl 3 At.enc l,.i m] (.i (nsM m l 0)):=by
 refine aE func53 U ntmps53 U (λe=>?_);refine W ?_;refine Lp (γ:=Nat×Int) (λg=>g.1<=l.length/\0<=g.2/\g.2<=m+1+281474976710656/\nsM m l 0=nsM m (l.drop g.1) g.2) (λg=>l.length+1-g.1) (λg=>[(0,.d (.sl 3 At.enc l)),(1,.d (.i m)),(5,.d (.i g.2)),(6,.d (.i (g.1:Int)))]) (λ_=>[]) (0,0) ⟨by simp,by simp,by simp only;omega,U⟩ ⟨U,U,U,U,trivial⟩ trivial ?_;rintro⟨g,n⟩ ⟨i0,i1,i2,i3⟩;dsimp only at i0 i1 i2 i3;show JD _ _ _ _ _ [(0,.d (.sl 3 At.enc l)),(1,.d (.i m)),(5,.d (.i n)),(6,.d (.i (g:Int)))] [];have fin:m<n\/g=l.length->resD [.i n]=.i (nsM m l 0):=λh=>by
  rw [i3];rcases h with h|h
  ·rw [nsM_stop m n h];rfl
  ·rw [h,List.drop_length];rfl
 refine W ?_;refine Bg U U (λh=>?_) (λh=>?_)
 ·have hlt:g<l.length:=by omega
  obtain⟨b1,b2⟩:=hB _ (aF hlt);rw [<- bG (z:=default) hlt] at b1 b2;have hdr:l.drop g=l.getD g default::l.drop (g+1):=by rw [aX hlt,bG hlt]
  refine W ?_;refine Ci U (λh2=>?_) (λh2=>?_)
  ·rw [hdr] at i3;simp only [nsM,if_pos h2] at i3;refine W ?_;exact⟨(g+1,n+1+(l.getD g default).oid.length+(l.getD g default).text.length),by simp only;omega,⟨by simp only;omega,by simp only;omega,by simp only;omega,i3⟩,⟨U,U,U,U,trivial⟩,trivial⟩
  ·refine W ?_;exact Rt U U (fin (.inl z2_))
 ·refine W ?_;exact Rt U U (fin (.inr z2_))
instance:Cn prog 53 (type_of% @fy):=⟨@fy⟩
theorem qa (m:Int):∀ (l:List At) (n:Int),(∀ a∈l,AtB a)->0<=n->n<=m+1+281474976710656->0<=nsM m l n/\nsM m l n<=m+1+281474976710656
 |[],n,_,h0,h1=>⟨h0,h1⟩
 |a::r,n,hB,h0,h1=>by
  obtain⟨b1,b2⟩:=hB a (aK ..);simp only [nsM];split
  ·exact qa m r _ (λz hz=>hB z (aP _ hz)) z2_ z2_
  ·exact⟨h0,h1⟩
theorem fvM_bd (m:Int):∀ (l:List Txt) (n:Int),(∀ v∈l,v.length<=140737488355328)->0<=n->n<=m+1+140737488355328->0<=fvM m l n/\fvM m l n<=m+1+140737488355328
 |[],n,_,h0,h1=>⟨h0,h1⟩
 |a::r,n,hB,h0,h1=>by
  have b1:=hB a (aK ..);simp only [fvM];split
  ·exact fvM_bd m r _ (λz hz=>hB z (aP _ hz)) z2_ z2_
  ·exact⟨h0,h1⟩
theorem fsM_bd (m:Int):∀ (l:List Fe) (n:Int),(∀ f∈l,FeB f)->0<=n->n<=m+1+140737488355328->0<=fsM m l n/\fsM m l n<=m+1+140737488355328
 |[],n,_,h0,h1=>⟨h0,h1⟩
 |a::r,n,hB,h0,h1=>by
  obtain⟨b1,_,b3⟩:=hB a (aK ..);simp only [fsM];split
  ·obtain⟨q1,q2⟩:=fvM_bd m a.vals (n+1+a.oid.length) b3 z2_ z2_;exact fsM_bd m r _ (λz hz=>hB z (aP _ hz)) q1 q2
  ·exact⟨h0,h1⟩
structure SgBd (s:Sg):Prop where
 isu:s.issuer.length<=140737488355328
 isuB:∀ a∈s.issuer,AtB a
 ser:s.serial.length<=140737488355328
 ski:s.ski.length<=140737488355328
 sgd:s.signed.length<=140737488355328
 sgdB:∀ f∈s.signed,FeB f
 sig:s.sig.length<=140737488355328
 uns:s.unsigned.length<=140737488355328
 unsB:∀ f∈s.unsigned,FeB f
theorem ui:FnD prog 15 [.sl 11 Crt.enc []] (.b false):=by
 refine aE func15 U ntmps15 U (λe=>?_);refine W ?_;refine Lp (γ:=Unit) (λ_=>True) (λ_=>0) (λ_=>[(0,.d (.sl 11 Crt.enc [])),(3,.d (.i 0))]) (λ_=>[]) () trivial ⟨U,U,trivial⟩ trivial ?_;rintro _ _;refine W ?_;exact Rt U U U
instance:Cn prog 15 (type_of% @ui):=⟨@ui⟩
theorem fes_of {l:List Fe}(h:fW l<=12000):l.length<=12000/\∀ f∈l,FeS f:=by
 have h2:=fW_le l;refine⟨by omega,λf hf=>?_⟩;have h3:=h2.2 f hf;have h4:=vW_le f.vals;have h5:=dZ f.oid;exact⟨⟨by omega,by omega⟩,by omega,λv hv=>by have:=h4.2 v hv;omega⟩
def wS {α:Type}(f:α->Nat):List α->Nat
 |[]=>0
 |x::r=>f x+wS f r
theorem wS_app {α:Type}(f:α->Nat):∀ l r:List α,wS f (l++r)=wS f l+wS f r
 |[],r=>by simp [wS]
 |x::l,r=>by have:=wS_app f l r;simp only [List.cons_append,wS];omega
theorem lL {α:Type} [Inhabited α] (f:α->Nat) {l:List α}{g:Nat}(h:g<l.length):wS f (l.take (g+1))=wS f (l.take g)+f (l.getD g default):=by
 rw [am h,wS_app,bG h];simp [wS]
theorem gz {α:Type}(f:α->Nat) {x:α}:∀ {l:List α},x∈l->f x<=wS f l
 |y::r,h=>by
  cases h with
  |head=>simp only [wS];omega
  |tail _ h=>have:=gz f h;simp only [wS];omega
theorem eM {α:Type}(f:α->Nat) (h:∀ x,1<=f x):∀ l:List α,l.length<=wS f l
 |[]=>aL _
 |x::r=>by have:=eM f h r;have:=h x;simp only [wS,aC];omega
def atW (a:At):Nat:=1+a.oid.length+a.text.length
def xtW (x:Xt):Nat:=1+x.oid.length+x.val.length
def gnW (g:Gn):Nat:=1+4*g.serial.length
def crtW (c:Crt):Nat:=c.sig.length+4*c.serial.length+4*c.key.n.length+4*c.key.e.length+4*c.key.d.length+wS atW c.issuer+wS atW c.subject+wS xtW c.exts
def clW (l:Cl):Nat:=l.sig.length+wS atW l.issuer+wS gnW l.gone
theorem q_ (m:Int):∀ (l:List At) (n:Int),nsM m l n<=m->nsM m l n=n+wS atW l
 |[],n,_=>by simp [nsM,wS]
 |v::r,n,h=>by
  simp only [nsM] at h |-
  split at h
  ·rename_i hn;rw [if_pos hn,q_ m r _ h];simp only [wS,atW];omega
  ·omega
structure XtD (x:Xt):Prop where
 o:x.oid.length<=140737488355328
 v:x.val.length<=140737488355328
structure CrD (c:Crt):Prop where
 ser:c.serial.length<=140737488355328
 isu:c.issuer.length<=140737488355328
 isuB:∀ a∈c.issuer,AtB a
 sub:c.subject.length<=140737488355328
 subB:∀ a∈c.subject,AtB a
 kn:c.key.n.length<=140737488355328
 ke:c.key.e.length<=140737488355328
 kd:c.key.d.length<=140737488355328
 ex:c.exts.length<=140737488355328
 exB:∀ x∈c.exts,XtD x
 sg:c.sig.length<=140737488355328
structure ClD (l:Cl):Prop where
 isu:l.issuer.length<=140737488355328
 isuB:∀ a∈l.issuer,AtB a
 gone:l.gone.length<=140737488355328
 goneB:∀ g∈l.gone,g.serial.length<=140737488355328
 sg:l.sig.length<=140737488355328
def IsW (m:Int) (w:Nat) (d:D):Prop:=∃ n:Int,d=.i n/\0<=n/\n<=m+10000000000000000/\(n<=m->n=w)
theorem csize_e (c:Crt) (m:Int) (h0:0<=m) (h1:m<=1000000) (h:CrD c):FnE prog 92 [.st c.enc,.i m] (IsW m (crtW c)):=by
 obtain⟨b1,b2,b3,b4,b5,b6,b7,b8,b9,b10,b11⟩:=h;have c1:=fy c.issuer m h0 z2_ b2 b3;have c2:=fy c.subject m h0 z2_ b4 b5;obtain⟨p1,p2⟩:=qa m c.issuer 0 b3 z2_ z2_;obtain⟨p3,p4⟩:=qa m c.subject 0 b5 z2_ z2_;have q1:=q_ m c.issuer 0;have q2:=q_ m c.subject 0;generalize nsM m c.issuer 0=N1 at *;generalize nsM m c.subject 0=N2 at *;refine aE func92 U ntmps92 U (λe=>?_);refine W ?_;refine bx (St1.mul U U z2_ U U) ?_;refine W ?_;refine bx (St1.mul U U z2_ U U) ?_;refine W ?_;refine bx (St1.mul U U z2_ U U) ?_;refine W ?_;refine bx (St1.mul U U z2_ U U) ?_;refine W ?_;have hw:(crtW c:Int)=(c.sig.length:Int)+4*(c.serial.length:Int)+4*(c.key.n.length:Int)+4*(c.key.e.length:Int)+4*(c.key.d.length:Int)+wS atW c.issuer+wS atW c.subject+wS xtW c.exts:=by unfold crtW;omega
 have hb0:0<=(c.sig.length:Int)+4*(c.serial.length:Int)+4*(c.key.n.length:Int)+4*(c.key.e.length:Int)+4*(c.key.d.length:Int)/\(c.sig.length:Int)+4*(c.serial.length:Int)+4*(c.key.n.length:Int)+4*(c.key.e.length:Int)+4*(c.key.d.length:Int)<=3000000000000000:=by omega
 generalize (c.sig.length:Int)+4*(c.serial.length:Int)+4*(c.key.n.length:Int)+4*(c.key.e.length:Int)+4*(c.key.d.length:Int)=n0 at *;refine Ci U (λh1=>?_) (λh1=>?_)
 ·refine W ?_;exact Rt U U ⟨_,U,by omega,by omega,by omega⟩
 refine W ?_;refine Ci U (λh2=>?_) (λh2=>?_)
 ·refine W ?_;exact Rt U U ⟨_,U,by omega,by omega,by omega⟩
 refine W ?_;refine Lp (γ:=Nat×Int) (λg=>g.1<=c.exts.length/\0<=g.2/\g.2<=m+5000000000000000/\g.2=n0+N1+N2+wS xtW (c.exts.take g.1)) (λg=>c.exts.length+1-g.1)
  (λg=>[(1,.d (.i m)),(2,.own 0 0),(5,.d (.i g.2)),(6,.d (.i (g.1:Int)))]) (λ_=>[(0,.whl 68 (.st c.enc))]) (0,n0+N1+N2) ⟨by simp,by simp only;omega,by simp only;omega,by simp [wS]⟩ ⟨U,U,U,U,trivial⟩ ⟨U,trivial⟩ ?_
 rintro⟨g,n⟩ ⟨i0,i1,i2,i3⟩;dsimp only at i0 i1 i2 i3;show JD _ _ _ _ _ [(1,.d (.i m)),(2,.own 0 0),(5,.d (.i n)),(6,.d (.i (g:Int)))] [(0,.whl 68 (.st c.enc))];have fin:g=c.exts.length\/m<n->IsW m (crtW c) (resD [.i n]):=λhh=>⟨n,U,i1,by omega,λhn=>by
  rcases hh with hh|hh
  ·rw [hh,List.take_length] at i3;omega
  ·omega⟩
 refine W ?_;refine Bg U U (λh3=>?_) (λh3=>?_)
 ·have hlt:g<c.exts.length:=by omega
  have hget:c.exts.getD g default=c.exts[g]:=bG hlt;obtain⟨x1,x2⟩:=b10 _ (aF hlt);rw [<- hget] at x1 x2;refine W ?_;refine Ci U (λh4=>?_) (λh4=>?_)
  ·have ht:=lL xtW hlt;unfold xtW at ht;refine W ?_;exact⟨(g+1,_),by simp only;omega,⟨by simp only;omega,by simp only;omega,by simp only;omega,by simp only;unfold xtW at i3 |-;omega⟩,⟨U,U,U,U,trivial⟩,⟨U,trivial⟩⟩
  ·refine W ?_;exact Rt U U (fin (.inr z2_))
 ·refine W ?_;exact Rt U U (fin (.inl z2_))
theorem clsize_e (l:Cl) (m:Int) (h0:0<=m) (h1:m<=1000000) (h:ClD l):FnE prog 93 [.st l.enc,.i m] (IsW m (clW l)):=by
 obtain⟨b1,b2,b3,b4,b5⟩:=h;have c1:=fy l.issuer m h0 z2_ b1 b2;obtain⟨p1,p2⟩:=qa m l.issuer 0 b2 z2_ z2_;have q1:=q_ m l.issuer 0;have hw:(clW l:Int)=(l.sig.length:Int)+wS atW l.issuer+wS gnW l.gone:=by unfold clW;omega
 refine aE func93 U ntmps93 U (λe=>?_);refine W ?_;generalize nsM m l.issuer 0=N1 at *;refine Lp (γ:=Nat×Int) (λg=>g.1<=l.gone.length/\0<=g.2/\g.2<=m+5000000000000000/\g.2=(l.sig.length:Int)+N1+wS gnW (l.gone.take g.1)) (λg=>l.gone.length+1-g.1)
  (λg=>[(1,.d (.i m)),(2,.own 0 0),(5,.d (.i g.2)),(6,.d (.i (g.1:Int)))]) (λ_=>[(0,.whl 72 (.st l.enc))]) (0,(l.sig.length:Int)+N1) ⟨by simp,by simp only;omega,by simp only;omega,by simp [wS]⟩ ⟨U,U,U,U,trivial⟩ ⟨U,trivial⟩ ?_
 rintro⟨g,n⟩ ⟨i0,i1,i2,i3⟩;dsimp only at i0 i1 i2 i3;show JD _ _ _ _ _ [(1,.d (.i m)),(2,.own 0 0),(5,.d (.i n)),(6,.d (.i (g:Int)))] [(0,.whl 72 (.st l.enc))];have fin:g=l.gone.length\/m<n->IsW m (clW l) (resD [.i n]):=λhh=>⟨n,U,i1,by omega,λhn=>by
  rcases hh with hh|hh
  ·rw [hh,List.take_length] at i3;omega
  ·omega⟩
 refine W ?_;refine Bg U U (λh3=>?_) (λh3=>?_)
 ·have hlt:g<l.gone.length:=by omega
  have hget:l.gone.getD g default=l.gone[g]:=bG hlt;have x1:=b4 _ (aF hlt);rw [<- hget] at x1;refine W ?_;refine Ci U (λh4=>?_) (λh4=>?_)
  ·have ht:=lL gnW hlt;unfold gnW at ht;refine W ?_;refine bx (St1.mul U U z2_ U U) ?_;refine W ?_;exact⟨(g+1,_),by simp only;omega,⟨by simp only;omega,by simp only;omega,by simp only;omega,by simp only;unfold gnW at i3 |-;omega⟩,⟨U,U,U,U,trivial⟩,⟨U,trivial⟩⟩
  ·refine W ?_;exact Rt U U (fin (.inr z2_))
 ·refine W ?_;exact Rt U U (fin (.inl z2_))
def crtW1 (c:Crt):Nat:=1+crtW c
def clW1 (l:Cl):Nat:=1+clW l
def IsW2 (m:Int) (w:Nat) (d:D):Prop:=∃ n:Int,d=.i n/\0<=n/\n<=m+30000000000000000/\(n<=m->n=w)
theorem sizes_e (cs:List Crt) (ls:List Cl) (m:Int) (h0:0<=m) (h1:m<=1000000) (hc:cs.length<=140737488355328) (hcB:∀ c∈cs,CrD c) (hl:ls.length<=140737488355328) (hlB:∀ l∈ls,ClD l) :
 FnE prog 52 [.sl 11 Crt.enc cs,.sl 6 Cl.enc ls,.i m] (IsW2 m (wS crtW1 cs+wS clW1 ls)):=by
 refine aE func52 U ntmps52 U (λe=>?_);refine W ?_;refine Lp (γ:=Nat×Int) (λg=>g.1<=cs.length/\0<=g.2/\g.2<=m+1+m+10000000000000000/\(g.2<=m->g.2=wS crtW1 (cs.take g.1))) (λg=>cs.length+1-g.1)
  (λg=>[(0,.d (.sl 11 Crt.enc cs)),(1,.d (.sl 6 Cl.enc ls)),(2,.d (.i m)),(7,.d (.i g.2)),(8,.d (.i (g.1:Int)))]) (λ_=>[]) (0,0) ⟨by simp,by simp,by simp only;omega,by simp [wS]⟩ ⟨U,U,U,U,U,trivial⟩ trivial ?_
 rintro⟨g,n⟩ ⟨i0,i1,i2,i3⟩;dsimp only at i0 i1 i2 i3;show JD _ _ _ _ _ [(0,.d (.sl 11 Crt.enc cs)),(1,.d (.sl 6 Cl.enc ls)),(2,.d (.i m)),(7,.d (.i n)),(8,.d (.i (g:Int)))] []
 repeat (refine JD.seq ?_)
 refine Jm (γ:=Bool) (λb=>[(0,.d (.sl 11 Crt.enc cs)),(1,.d (.sl 6 Cl.enc ls)),(2,.d (.i m)),(7,.d (.i n)),(8,.d (.i (g:Int))),(18,.d (.bq b))]) (λ_=>[]) (λb=>b=(decide ((g:Int)<cs.length)&&decide (n<=m))) ?_ ?_
 ·refine W ?_;refine Bg U U (λh3=>?_) (λh3=>?_)
  ·refine W ?_;exact⟨decide (n<=m),by rw [aj h3];rfl,⟨⟨_,U,aZ⟩,⟨_,U,aZ⟩,⟨_,U,aZ⟩,⟨_,U,aZ⟩,⟨_,U,aZ⟩,⟨_,U,aZ⟩,trivial⟩,trivial⟩
  ·refine W ?_;exact⟨false,by rw [au h3];rfl,⟨⟨_,U,aZ⟩,⟨_,U,aZ⟩,⟨_,U,aZ⟩,⟨_,U,aZ⟩,⟨_,U,aZ⟩,⟨_,U,CvA.q⟩,trivial⟩,trivial⟩
 rintro b hb;refine Ci U (λh3=>?_) (λh3=>?_)
 ·rw [h3] at hb;simp only [Bool.true_eq,Bool.and_eq_true,ax] at hb;have hlt:g<cs.length:=by omega
  have hget:cs.getD g default=cs[g]:=bG hlt;have x1:=hcB _ (aF hlt);rw [<- hget] at x1;have ht:=lL crtW1 hlt;refine W ?_;refine Ce U U (csize_e (cs.getD g default) m h0 h1 x1) (λd' hd=>?_);obtain⟨n1,rfl,p1,p2,p3⟩:=hd;refine W ?_;exact⟨(g+1,n+1+n1),by simp only;omega,⟨by simp only;omega,by simp only;omega,by simp only;omega,by simp only;intro hm;have q1:=i3 hb.2;have q2:=p3 z2_;unfold crtW1 at ht q1 |-;omega⟩,⟨U,U,U,U,U,trivial⟩,trivial⟩
 rw [h3] at hb;have hx:n<=m->n=wS crtW1 cs:=λhm=>by
  have hge:cs.take g=cs:=aS (by
   rw [aj hm,Bool.and_true] at hb;have:=of_decide_eq_false hb.symm;omega)
  rw [i3 hm,hge]
 clear hb i3 h3;refine W ?_;refine Lp (γ:=Nat×Int) (λg=>g.1<=ls.length/\0<=g.2/\g.2<=m+1+m+10000000000000000/\(g.2<=m->g.2=wS crtW1 cs+wS clW1 (ls.take g.1))) (λg=>ls.length+1-g.1)
  (λg=>[(1,.d (.sl 6 Cl.enc ls)),(2,.d (.i m)),(7,.d (.i g.2)),(9,.d (.i (g.1:Int)))]) (λ_=>[]) (0,n) ⟨by simp,i1,i2,λhm=>by rw [hx hm];simp [wS]⟩ ⟨U,U,U,U,trivial⟩ trivial ?_
 clear hx i0 i1 i2;rintro⟨g,n⟩ ⟨i0,i1,i2,i3⟩;dsimp only at i0 i1 i2 i3;show JD _ _ _ _ _ [(1,.d (.sl 6 Cl.enc ls)),(2,.d (.i m)),(7,.d (.i n)),(9,.d (.i (g:Int)))] [];have fin:g=ls.length\/m<n->IsW2 m (wS crtW1 cs+wS clW1 ls) (resD [.i n]):=λhh=>⟨n,U,i1,by omega,λhn=>by
  rcases hh with hh|hh
  ·rw [i3 hn,hh,List.take_length];omega
  ·omega⟩
 refine W ?_;refine Bg U U (λh3=>?_) (λh3=>?_)
 ·have hlt:g<ls.length:=by omega
  have hget:ls.getD g default=ls[g]:=bG hlt;have x1:=hlB _ (aF hlt);rw [<- hget] at x1;have ht:=lL clW1 hlt;refine W ?_;refine Ci U (λh4=>?_) (λh4=>?_)
  ·refine W ?_;refine Ce U U (clsize_e (ls.getD g default) m h0 h1 x1) (λd' hd=>?_);obtain⟨n1,rfl,p1,p2,p3⟩:=hd;refine W ?_;exact⟨(g+1,n+1+n1),by simp only;omega,⟨by simp only;omega,by simp only;omega,by simp only;omega,by simp only;intro hm;have q1:=i3 h4;have q2:=p3 z2_;unfold clW1 at ht q1 |-;omega⟩,⟨U,U,U,U,trivial⟩,trivial⟩
  ·refine W ?_;exact Rt U U (fin (.inr z2_))
 ·refine W ?_;exact Rt U U (fin (.inl z2_))
def bigKB (cs:List Crt):Bool:=decide (∃ i,i<cs.length/\26<(cs.getD i default).key.n.length)
theorem great_d (cs:List Crt) (hl:cs.length<=140737488355328):FnD prog 15 [.sl 11 Crt.enc cs] (.b (bigKB cs)):=by
 refine aE func15 U ntmps15 U (λe=>?_);refine W ?_;refine Lp (γ:=Nat) (λg=>g<=cs.length/\∀ j,j<g->¬ 26<(cs.getD j default).key.n.length) (λg=>cs.length+1-g) (λg=>[(0,.d (.sl 11 Crt.enc cs)),(3,.d (.i (g:Int)))]) (λ_=>[]) 0 ⟨by omega,λj hj=>by omega⟩ ⟨U,U,trivial⟩ trivial ?_;rintro g ⟨hg,hall⟩;refine W ?_;refine Ci U (λh3=>?_) (λh3=>?_)
 ·refine W ?_;refine Ci U (λh4=>?_) (λh4=>?_)
  ·refine W ?_;refine Rt U U ?_;rw [show bigKB cs=true from aj ⟨g,by omega,by omega⟩];rfl
  ·refine W ?_;refine⟨g+1,by omega,⟨by omega,λj hj=>?_⟩,⟨U,U,trivial⟩,trivial⟩;by_cases hjg:j=g
   ·subst hjg;omega
   ·exact hall j z2_
 ·refine W ?_;refine Rt U U ?_;rw [show bigKB cs=false from au λ⟨i,h1,h2⟩=>hall i z2_ h2];rfl
def sgW (s:Sg):Nat:=1+s.ski.length+s.sig.length+4*s.serial.length+wS atW s.issuer+fW s.signed+fW s.unsigned
def sdW (s:Sd):Nat:=s.type.length+s.content.length+(wS crtW1 s.certs+wS clW1 s.crls)+wS sgW s.signers
structure SdD (s:Sd):Prop where
 ty:s.type.length<=140737488355328
 ct:s.content.length<=140737488355328
 cs:s.certs.length<=140737488355328
 csB:∀ c∈s.certs,CrD c
 ls:s.crls.length<=140737488355328
 lsB:∀ l∈s.crls,ClD l
 sg:s.signers.length<=140737488355328
 sgB:∀ x∈s.signers,SgBd x
theorem sdsize_e (s:Sd) (m:Int) (h0:0<=m) (h1:m<=1000000) (h:SdD s):FnE prog 14 [.st s.enc,.i m] (λd=>∃ n:Int,d=.i n/\(n<=m->n=sdW s)):=by
 obtain⟨b1,b2,b3,b4,b5,b6,b7,b8⟩:=h;refine aE func14 U ntmps14 U (λe=>?_);refine W ?_;refine Ci U (λg1=>?_) (λg1=>?_)
 ·refine W ?_;exact Rt U U ⟨_,U,by omega⟩
 refine W ?_;refine Ce U U (sizes_e s.certs s.crls m h0 h1 b3 b4 b5 b6) (λd' hd=>?_);obtain⟨n1,rfl,p1,p2,p3⟩:=hd;refine W ?_;refine Lp (γ:=Nat×Int) (λg=>g.1<=s.signers.length/\0<=g.2/\g.2<=m+100000000000000000/\(g.2<=m->g.2=s.type.length+s.content.length+(wS crtW1 s.certs+wS clW1 s.crls)+wS sgW (s.signers.take g.1))) (λg=>s.signers.length+1-g.1)
  (λg=>[(1,.d (.i m)),(2,.own 0 0),(5,.d (.i g.2)),(6,.d (.i (g.1:Int)))]) (λ_=>[(0,.whl 27 (.st s.enc))]) (0,_) ⟨by simp,by simp only;omega,by simp only;omega,by simp only;intro hm;have:=p3 z2_;simp [wS];omega⟩ ⟨U,U,U,U,trivial⟩ ⟨U,trivial⟩ ?_
 clear p1 p2 p3 g1;rintro⟨g,n⟩ ⟨i0,i1,i2,i3⟩;dsimp only at i0 i1 i2 i3;show JD _ _ _ _ _ [(1,.d (.i m)),(2,.own 0 0),(5,.d (.i n)),(6,.d (.i (g:Int)))] [(0,.whl 27 (.st s.enc))];have fin:g=s.signers.length\/m<n->∃ k:Int,resD [.i n]=.i k/\(k<=m->k=sdW s):=λhh=>⟨n,U,λhn=>by
  rcases hh with hh|hh
  ·rw [i3 hn,hh,List.take_length];unfold sdW;omega
  ·omega⟩
 refine W ?_;refine Bg U U (λh3=>?_) (λh3=>?_)
 ·have hlt:g<s.signers.length:=by omega
  have hget:s.signers.getD g default=s.signers[g]:=bG hlt;have x1:=b8 _ (aF hlt);rw [<- hget] at x1;have ht:=lL sgW hlt;obtain⟨z1,z2,z3,z4,z5,z6,z7,z8,z9⟩:=x1;have c1:=fy (s.signers.getD g default).issuer m h0 z2_ z1 z2;have c2:=fT (s.signers.getD g default).signed m h0 z2_ z5 z6;have c3:=fT (s.signers.getD g default).unsigned m h0 z2_ z8 z9;have q1:=qa m (s.signers.getD g default).issuer 0 z2 z2_ z2_;have q2:=fsM_bd m (s.signers.getD g default).signed 0 z6 z2_ z2_;have q3:=fsM_bd m (s.signers.getD g default).unsigned 0 z9 z2_ z2_;have e1:=q_ m (s.signers.getD g default).issuer 0;have e2:=fsM_eq m (s.signers.getD g default).signed 0;have e3:=fsM_eq m (s.signers.getD g default).unsigned 0;refine W ?_;refine Ci U (λh4=>?_) (λh4=>?_)
  ·refine W ?_;refine cK U (St1.mul U U z2_ U U) ?_;refine W ?_;refine⟨(g+1,_),by simp only;omega,⟨by simp only;omega,?_,?_,?_⟩,⟨U,U,U,U,trivial⟩,⟨U,trivial⟩⟩
   ·simp only;omega
   ·simp only;omega
   ·simp only;intro hm;have k0:=i3 h4;have k1:=e1 z2_;have k2:=e2 z2_;have k3:=e3 z2_;rw [ht,k1,k2,k3];unfold sgW at k0 |-;omega
  ·refine W ?_;exact Rt U U (fin (.inr z2_))
 ·refine W ?_;exact Rt U U (fin (.inl z2_))
theorem bigK_no {cs:List Crt}(h:bigKB cs=false):∀ c∈cs,c.key.n.length<=26:=λc hc=>by
 obtain⟨i,hi,rfl⟩:=List.getElem_of_mem hc;have:=of_decide_eq_false h;have h2:¬ 26<(cs.getD i default).key.n.length:=λhh=>this ⟨i,hi,hh⟩;rw [bG hi] at h2;omega
theorem heavy_e (s:Sd) (h:SdD s):FnE prog 4 [.st s.enc] (λd=>∃ b,d=.b b/\(b=false->sdW s<=12000/\∀ c∈s.certs,c.key.n.length<=26)):=by
 have cg:=great_d s.certs h.cs;refine aE func4 U ntmps4 U (λe=>?_);refine W ?_;refine Ce U U (sdsize_e s 12000 bT bT h) (λd' hd=>?_);obtain⟨n,rfl,hn⟩:=hd;refine W ?_;refine Bg U U (λh1=>?_) (λh1=>?_)
 ·refine W ?_;exact Rt U U ⟨true,U,by simp⟩
 ·refine W ?_;exact Rt U U ⟨bigKB s.certs,U,λhb=>⟨by have:=hn z2_;omega,bigK_no hb⟩⟩
section
open Go Go.RowKit Go.ChangeShapes Go.WideShapes Go.Lib Go.ChangeAt
def RdT (P:Program) (t:TypeId) (sz:Nat) (Q:List D->Prop):Prop :=
 ∀ (n:Nat) {H:Type} (enc:TypeId×Value->H) (W:World) (cs:LV) (x:DataW H×List MemPlace),DataW.trod enc P W 0 (λ_=>true) true n t cs=some x->(x.1.weights P t).all (·<=reachBytes)=true->∃ y:List D,cs.length=sz/\DenL y (partOf W) cs/\Q y
section
variable {P:Program}{t e:TypeId}{sz:Nat}{Q Q':List D->Prop}
theorem rd_int {k:IntKind}(ht:P.underlying t=some (.int k)):RdT P t 1 (λy=>∃ i:Int,y=[.v (.int k i)]):=λn H enc W cs x a b=>by
 obtain⟨m,rfl,rfl,hw⟩:=DataW.trod_int ht a;exact⟨[.v (.int k m)],U,.c U (cj (h:=_)) .n,m,U⟩
theorem rd_bo (ht:P.underlying t=some .bool):RdT P t 1 (λy=>∃ i:Bool,y=[.b i]):=λn H enc W cs x a b=>by
 obtain⟨m,rfl,rfl⟩:=DataW.trod_bool ht a;exact⟨[.b m],U,.c U ((dH (h:=_)).2 U) .n,m,U⟩
theorem rd_s (ht:P.underlying t=some .string):RdT P t 1 (λy=>∃ s:Txt,y=[.s s]/\s.length<=140737488355328):=λn H enc W cs x a b=>by
 obtain⟨s,_,⟨e0,hs⟩,_⟩:=opens_str (n:=n) ht enc W _ _ a b;cases e0;exact⟨[.s s],U,.c U (cj (h:=_)) .n,s,U,Nat.le_trans hs bT⟩
theorem Opens.any {α:Type}{R:Rep α}{μ:α->Nat}(ho:∀ n,Opens P (n+1) t R sz μ) (n:Nat):Opens P n t R sz μ:=by
 cases n with
 |zero=>intro H enc W cs x h;simp [DataW.trod] at h
 |succ n=>exact ho n
theorem slR_all {α:Type}{R:Rep α}{h:Part}{cs:LV}{l:List α}(k:slR R sz h cs l):l.length<=140737488355328/\∀ x∈l,∃ cs,R h cs x:=by
 obtain⟨a,c,rfl,r⟩:=k;refine⟨r.big,λx hx=>?_⟩;obtain⟨i,hi,e⟩:=List.getElem_of_mem hx;obtain⟨_,_,_,_,cs,_,_,_,h3⟩:=r.elt i x (by rw [aW hi,e]);exact⟨cs,h3⟩
abbrev QSl {α:Type}(sz:Nat) (enc:α->List D) (B:α->Prop):List D->Prop:=λy=>∃ l:List α,y=[.sl sz enc l]/\l.length<=140737488355328/\∀ x∈l,B x
theorem pP {α:Type}{enc:α->List D}{B:α->Prop}(hr:RdT P e sz Q) (ht:P.underlying t=some (.slice e)) (hc:P.cellsOf e=sz) (hsz:0<sz) (hb:0<P.bytesOf e) (hQ:∀ y,Q y->∃ x,y=enc x/\B x):RdT P t 1 (QSl sz enc B):=λn H en W cs x a b=>by
 have ho:∀ n,Opens P n e (λh cs x=>encR enc h cs x/\B x) sz (λ_=>0):=λn H en W cs x a b=>by
  obtain⟨y,e1,r,q⟩:=hr n en W cs x a b;obtain⟨x',rfl,hB⟩:=hQ y q;exact⟨x',e1,⟨r,hB⟩,Nat.zero_le _⟩
 obtain⟨l,_,q,_⟩:=Opens.any (λn=>iO ht hc hsz hb (@ho n)) n en W cs x a b;obtain⟨v,rfl,o,d⟩:=slR_enc (enc:=enc) (λr=>r.1) q;obtain⟨b1,b2⟩:=slR_all q;exact⟨[.sl sz enc l],U,.c o d .n,l,U,b1,λx hx=>by obtain⟨_,h⟩:=b2 x hx;exact h.2⟩
inductive RdFs (P:Program):List Field->Nat->Nat->(List D->Prop)->Prop
 |n {o:Nat}:RdFs P [] o o (λy=>y=[])
 |c {f:Field} {r:List Field} {o sz e:Nat} {Q Q':List D->Prop} (ho:f.offset=o) (hc:P.cellsOf f.type=sz) (hr:RdT P f.type sz Q) (k:RdFs P r (o+sz) e Q'):RdFs P (f::r) o e (λy=>∃ a,Q a/\∃ b,Q' b/\y=a++b)
theorem rdf_go {H:Type}(en:TypeId×Value->H) (W:World) (m:Nat) (cs:LV) {fs:List Field}{o e:Nat}{Q:List D->Prop}(k:RdFs P fs o e Q):∀ (xs:List (DataW H×List MemPlace)),cs.length=e->xs.length=fs.length ->
 (∀ (i:Nat) (f:Field),fs[i]?=some f->DataW.trod en P W 0 (λ_=>true) true m f.type ((cs.drop f.offset).take (P.cellsOf f.type))=xs[i]?)->(DataW.weightsEach P (fs.map (·.type)) (xs.map (·.1))).all (·<=reachBytes)=true->∃ y,DenL y (partOf W) (cs.drop o)/\Q y:=by
 induction k with
 |n=>intro xs h1 h2 h3 h4;exact⟨[],by rw [<- h1,List.drop_length];exact .n,U⟩
 |@c f r o sz e Q Q' ho hc hr k ih =>
  intro xs h1 h2 h3 h4;obtain⟨x,xr,rfl⟩:∃ x xr,xs=x::xr:=by cases xs with|nil=>cases h2|cons x xr=>exact⟨x,xr,rfl⟩
  simp only [List.map_cons,DataW.weightsEach,List.all_append,Bool.and_eq_true] at h4;obtain⟨y0,hl,d0,q0⟩:=hr m en W _ _ (h3 0 f U) h4.1;obtain⟨y1,d1,q1⟩:=ih xr h1 (by simpa using h2) (λi g hg=>h3 (i+1) g hg) h4.2;refine⟨y0++y1,?_,y0,q0,y1,q1,U⟩;have:=DenL.app d0 d1;rwa [ho,hc,<- List.drop_drop,List.take_append_drop] at this
theorem nQ {fs:Array Field}(hf:RdFs P fs.toList 0 sz Q) (ht:P.underlying t=some (.struct fs)) (hc:P.cellsOf t=sz):RdT P t sz Q:=λn H en W cs x a b=>by
 obtain⟨xs,m,hm,rfl,hl,hxl,hall⟩:=DataW.trod_struct ht a;rw [hc] at hl;simp only [DataW.weights,ht] at b;obtain⟨y,d,q⟩:=rdf_go en W m cs hf xs hl (by simpa using hxl) (λi f h=>hall i f (by simpa using h)) b;exact⟨y,hl,d,q⟩
theorem arg_st {H:Type}{en:TypeId×Value->H}{W:World}{base:Nat}{v:Value}{d:DataW H}{ps:List MemPlace}{fs:Array Field}(hr:RdT P t sz Q) (ht:P.underlying t=some (.struct fs)) (hval:Value.okWide P W .any base t v) (hd:DataW.Trod en P W 0 (λ_=>true) true t v d ps) (hw:(d.weights P t).all (·<=reachBytes)=true) :
 ∃ y,Den (.st y) (partOf W) v/\Q y:=by
 simp only [Value.okWide,ht] at hval;obtain⟨cs,rfl,_,_⟩:=hval;obtain⟨n,hn⟩:=hd;obtain⟨y,_,r,q⟩:=hr n en W _ _ hn hw;exact⟨y,(dS (h:=_)).2 ⟨cs.toList,by simp,r⟩,q⟩
end
theorem eP:prog.cellsOf 9=1:=by kernel_rfl
theorem iz:prog.cellsOf 3=1:=by kernel_rfl
theorem gc:prog.cellsOf 2=1:=by kernel_rfl
theorem mF:prog.cellsOf 4=1:=by kernel_rfl
theorem fz:prog.cellsOf 62=1:=by kernel_rfl
theorem fH:prog.cellsOf 22=1:=by kernel_rfl
theorem vR:prog.cellsOf 46=1:=by kernel_rfl
theorem jG:prog.cellsOf 63=1:=by kernel_rfl
theorem qI:prog.cellsOf 44=1:=by kernel_rfl
theorem cells_xts:prog.cellsOf 66=1:=by kernel_rfl
theorem cells_gns:prog.cellsOf 70=1:=by kernel_rfl
theorem vQ:prog.cellsOf 23=1:=by kernel_rfl
theorem cells_cls:prog.cellsOf 24=1:=by kernel_rfl
theorem cells_sgs:prog.cellsOf 25=1:=by kernel_rfl
theorem nh:prog.cellsOf 134=3:=by kernel_rfl
theorem l7:prog.cellsOf 48=2:=by kernel_rfl
theorem qJ:prog.cellsOf 173=3:=by kernel_rfl
theorem nf:prog.cellsOf 176=2:=by kernel_rfl
theorem qH:prog.cellsOf 65=3:=by kernel_rfl
theorem ng:prog.cellsOf 68=11:=by kernel_rfl
theorem qK:prog.cellsOf 72=6:=by kernel_rfl
theorem l5:prog.cellsOf 75=7:=by kernel_rfl
theorem qF:prog.cellsOf 27=6:=by kernel_rfl
theorem kV {n k:Nat}(h:n=k+1):0<n:=by omega
theorem rG:RdT prog 22 1 (λy=>∃ l:Txt,y=[.bs l]/\l.length<=140737488355328):=λn H en W cs x a b=>by
 obtain⟨l,_,q,_⟩:=opens_by n en W _ _ a b;obtain⟨u,c,rfl,r⟩:=q;exact⟨[.bs l],U,.c U ((dm (h:=_)).2 ⟨_,_,U,r⟩) .n,l,U,r.big⟩
theorem mT:RdT prog 62 1 (λy=>∃ l:List UInt32,y=[.ws l]/\l.length<=140737488355328):=λn H en W cs x a b=>by
 obtain⟨l,_,q,_⟩:=Opens.any opens_nat n en W _ _ a b;obtain⟨u,rfl,o,d⟩:=slR_enc (enc:=u32E) (λr=>rg.1 r) q;exact⟨[.ws l],U,.c o d .n,l,U,(slR_all q).1⟩
abbrev rd_str:=rd_s Tryz.underlying9
abbrev rd_i:=rd_int Tryz.underlying3
abbrev rd_i64:=rd_int Tryz.underlying2
abbrev rd_b:=rd_bo Tryz.underlying4
theorem tw:RdT prog 63 1 (QSl 3 At.enc AtB):=pP (nQ (.c U eP rd_str (.c U iz rd_i (.c U eP rd_str .n))) Tryz.underlying134 nh)
 Tryz.underlying63 nh bT (kV (k:=39) cP) (by
  rintro _ ⟨_,⟨a,rfl,ha⟩,_,⟨_,⟨b,rfl⟩,_,⟨_,⟨c,rfl,hc⟩,_,rfl,rfl⟩,rfl⟩,rfl⟩;exact⟨⟨a,b,c⟩,U,ha,hc⟩)
theorem rd_bss:RdT prog 46 1 (QSl 1 bE (λl:Txt=>l.length<=140737488355328)):=pP rG Tryz.underlying46 fH bT (kV (k:=23) cP) (by rintro _ ⟨l,rfl,h⟩;exact⟨l,U,h⟩)
theorem rd_fes:RdT prog 44 1 (QSl 2 Fe.enc FeB):=pP (nQ (.c U eP rd_str (.c U vR rd_bss .n)) Tryz.underlying48 l7)
 Tryz.underlying44 l7 bT (kV (k:=39) cP) (by
  rintro _ ⟨_,⟨a,rfl,ha⟩,_,⟨_,⟨b,rfl,hb⟩,_,rfl,rfl⟩,rfl⟩;exact⟨⟨a,b⟩,U,ha,hb⟩)
theorem rd_xts:RdT prog 66 1 (QSl 3 Xt.enc XtD):=pP (nQ (.c U eP rd_str (.c U mF rd_b (.c U fH rG .n))) Tryz.underlying173 qJ)
 Tryz.underlying66 qJ bT (kV (k:=47) cP) (by
  rintro _ ⟨_,⟨a,rfl,ha⟩,_,⟨_,⟨b,rfl⟩,_,⟨_,⟨c,rfl,hc⟩,_,rfl,rfl⟩,rfl⟩,rfl⟩;exact⟨⟨a,b,c⟩,U,ha,hc⟩)
theorem rd_gns:RdT prog 70 1 (QSl 2 Gn.enc (λg:Gn=>g.serial.length<=140737488355328)):=pP (nQ (.c U fz mT (.c U gc rd_i64 .n)) Tryz.underlying176 nf)
 Tryz.underlying70 nf bT (kV (k:=31) cP) (by
  rintro _ ⟨_,⟨a,rfl,ha⟩,_,⟨_,⟨b,rfl⟩,_,rfl,rfl⟩,rfl⟩;exact⟨⟨a,b⟩,U,ha⟩)
theorem rd_crts:RdT prog 23 1 (QSl 11 Crt.enc CrD):=pP
 (nQ (.c U fz mT (.c U iz rd_i (.c U jG tw (.c U jG tw (.c U gc rd_i64 (.c U gc rd_i64 (.c U qH (nQ (.c U fz mT (.c U fz mT (.c U fz mT .n))) Tryz.underlying65 qH) (.c U cells_xts rd_xts (.c U fH rG .n))))))))) Tryz.underlying68 ng)
 Tryz.underlying23 ng bT (kV (k:=215) cP) (by
  rintro _ ⟨_,⟨a1,rfl,h1⟩,_,⟨_,⟨a2,rfl⟩,_,⟨_,⟨a3,rfl,h3,h3'⟩,_,⟨_,⟨a4,rfl,h4,h4'⟩,_,⟨_,⟨a5,rfl⟩,_,⟨_,⟨a6,rfl⟩,_,⟨_,⟨_,⟨k1,rfl,g1⟩,_,⟨_,⟨k2,rfl,g2⟩,_,⟨_,⟨k3,rfl,g3⟩,_,rfl,rfl⟩,rfl⟩,rfl⟩,_,⟨_,⟨a8,rfl,h8,h8'⟩,_,⟨_,⟨a9,rfl,h9⟩,_,rfl,rfl⟩,rfl⟩,rfl⟩,rfl⟩,rfl⟩,rfl⟩,rfl⟩,rfl⟩,rfl⟩;exact⟨⟨a1,a2,a3,a4,a5,a6,⟨k1,k2,k3⟩,a8,a9⟩,U,h1,h3,h3',h4,h4',g1,g2,g3,h8,h8',h9⟩)
theorem rd_cls:RdT prog 24 1 (QSl 6 Cl.enc ClD):=pP
 (nQ (.c U iz rd_i (.c U jG tw (.c U gc rd_i64 (.c U gc rd_i64 (.c U cells_gns rd_gns (.c U fH rG .n)))))) Tryz.underlying72 qK)
 Tryz.underlying24 qK bT (kV (k:=95) cP) (by
  rintro _ ⟨_,⟨a1,rfl⟩,_,⟨_,⟨a2,rfl,h2,h2'⟩,_,⟨_,⟨a3,rfl⟩,_,⟨_,⟨a4,rfl⟩,_,⟨_,⟨a5,rfl,h5,h5'⟩,_,⟨_,⟨a6,rfl,h6⟩,_,rfl,rfl⟩,rfl⟩,rfl⟩,rfl⟩,rfl⟩,rfl⟩;exact⟨⟨a1,a2,a3,a4,a5,a6⟩,U,h2,h2',h5,h5',h6⟩)
theorem rd_sgs:RdT prog 25 1 (QSl 7 Sg.enc SgBd):=pP
 (nQ (.c U jG tw (.c U fz mT (.c U fH rG (.c U iz rd_i (.c U qI rd_fes (.c U fH rG (.c U qI rd_fes .n))))))) Tryz.underlying75 l5)
 Tryz.underlying25 l5 bT (kV (k:=151) cP) (by
  rintro _ ⟨_,⟨a1,rfl,h1,h1'⟩,_,⟨_,⟨a2,rfl,h2⟩,_,⟨_,⟨a3,rfl,h3⟩,_,⟨_,⟨a4,rfl⟩,_,⟨_,⟨a5,rfl,h5,h5'⟩,_,⟨_,⟨a6,rfl,h6⟩,_,⟨_,⟨a7,rfl,h7,h7'⟩,_,rfl,rfl⟩,rfl⟩,rfl⟩,rfl⟩,rfl⟩,rfl⟩,rfl⟩;exact⟨⟨a1,a2,a3,a4,a5,a6,a7⟩,U,h1,h1',h2,h3,h5,h5',h6,h7,h7'⟩)
section
variable {H:Type}{enc:TypeId×Value->H}{W:World}{base:Nat}{v:Value}{d:DataW H}{ps:List MemPlace}
theorem arg_signed (hval:Value.okWide prog W .any base 27 v) (hd:DataW.Trod enc prog W 0 (λ_=>true) true 27 v d ps) (hw:(d.weights prog 27).all (·<=reachBytes)=true) :
 ∃ s:Sd,Den (.st s.enc) (partOf W) v/\SdD s:=by
 obtain⟨y,r,q⟩:=arg_st (nQ (.c U eP rd_str (.c U mF rd_b (.c U fH rG (.c U vQ rd_crts (.c U cells_cls rd_cls (.c U cells_sgs rd_sgs .n)))))) Tryz.underlying27 qF) Tryz.underlying27 hval hd hw;obtain⟨_,⟨a1,rfl,h1⟩,_,⟨_,⟨a2,rfl⟩,_,⟨_,⟨a3,rfl,h3⟩,_,⟨_,⟨a4,rfl,h4,h4'⟩,_,⟨_,⟨a5,rfl,h5,h5'⟩,_,⟨_,⟨a6,rfl,h6,h6'⟩,_,rfl,rfl⟩,rfl⟩,rfl⟩,rfl⟩,rfl⟩,rfl⟩:=q;exact⟨⟨a1,a2,a3,a4,a5,a6⟩,r,h1,h3,h4,h4',h5,h5',h6,h6'⟩
end
def plainTsH:List TypeId:=[9,5,3,2,4,190,62,22,46,134,63,48,44,75,25,173,66,65,68,23,176,70,72,24,27]
theorem plainTsH_ok:plainB prog plainTsH=true:=by kernel_rfl
end
def extsP:List Txt->List Xt->Bool
 |_,[]=>true
 |seen,x::r=>if extE x≠0 then false else if(seen.any λt=>decide (t=x.oid))=true then false else if tellB x=true then extsP (seen++[x.oid]) r else false
def extsB (l:List Xt):Bool:=extsP [] l&&decide ((l.length:Int)<=32)
structure XtS (x:Xt):Prop where
 o:x.oid.length<=100000
 v:x.val.length<=100000
theorem exts_d (l:List Xt) (hl:l.length<=100000) (hB:∀ x∈l,XtS x):FnD prog 137 [.sl 3 Xt.enc l] (.b (extsB l)):=by
 have bad:extsP [] l=false->resD [.b false]=.b (extsB l):=λh=>by unfold extsB;rw [h];rfl
 refine aE func137 U ntmps137 U (λe=>?_);refine W ?_;refine Mm U U ?_;refine W ?_;refine Lp (γ:=Nat) (λg=>g<=l.length/\extsP [] l=extsP ((l.take g).map (·.oid)) (l.drop g)) (λg=>l.length+1-g) (λg=>[(0,.d (.sl 3 Xt.enc l)),(3,.mp 0),(9,.d (.sl 3 Xt.enc l)),(10,.d (.i (l.length:Int))),(11,.d (.i (g:Int)))]) (λg=>[(0,.set (((l.take g).map (·.oid)).map strV))]) 0 ⟨by omega,U⟩ ⟨U,U,U,U,U,trivial⟩ ⟨U,trivial⟩ ?_;rintro g ⟨hg,hf⟩;refine W ?_;refine Ci U (λh3=>?_) (λh3=>?_)
 ·have hlt:g<l.length:=by omega
  have hget:l.getD g default=l[g]:=bG hlt;have hdr:l.drop g=l.getD g default::l.drop (g+1):=by rw [aX hlt,hget]
  have htk:(l.take (g+1)).map (·.oid)=(l.take g).map (·.oid)++[(l.getD g default).oid]:=by rw [am hlt,List.map_append,hget];rfl
  obtain⟨b1,b2⟩:=hB _ (aF hlt);rw [<- hget] at b1 b2;have c1:=jw (l.getD g default) z2_ z2_;have c2:=sJ (l.getD g default) (by have:=i9 (l.getD g default).val;omega);rw [hdr] at hf;simp only [extsP] at hf;refine W ?_;refine Bg U U (λh4=>?_) (λh4=>?_)
  ·rw [if_pos h4] at hf;refine W ?_;exact Rt U U (bad hf)
  rw [if_neg (show ¬ extE (l.getD g default)≠0 from λhh=>hh h4)] at hf;refine W ?_;refine bx (St1.look U U U U U U) ?_;refine W ?_;refine Bg U U (λh5=>?_) (λh5=>?_)
  ·rw [if_pos h5] at hf;refine W ?_;exact Rt U U (bad hf)
  rw [if_neg (by rw [h5];simp)] at hf;refine W ?_;refine Ci U (λh6=>?_) (λh6=>?_)
  ·rw [if_neg (by simpa using h6)] at hf;refine W ?_;exact Rt U U (bad hf)
  rw [if_pos (by simpa using h6)] at hf;refine W ?_;refine Mu U U U U h5 U U ?_;refine W ?_;refine⟨g+1,by omega,⟨by omega,?_⟩,⟨U,U,U,U,U,trivial⟩,?_⟩
  ·rw [htk];exact hf
  ·show WkO [(0,.set (((l.take (g+1)).map (·.oid)).map strV))] _;rw [htk];exact⟨U,trivial⟩
 ·rw [List.drop_of_length_le z2_] at hf;refine W ?_;exact Rt U U (by unfold extsB;rw [hf];rfl)
instance:Cn prog 137 (type_of% @exts_d):=⟨@exts_d⟩
abbrev kyB (k:Ky):Bool:=rightB (vL k.n) (vL k.e) (vL k.d)
theorem uw {h:Part}{v:Value}{k:Ky}(hd:Den (.st k.enc) h v):∃ a1 c1 a2 c2 a3 c3,v=.agg #[.slice a1 k.n.length c1,.slice a2 k.e.length c2,.slice a3 k.d.length c3]/\SlR u32R 1 h a1 c1 k.n/\SlR u32R 1 h a2 c2 k.e/\SlR u32R 1 h a3 c3 k.d:=by
 obtain⟨cs,rfl,hl⟩:=dS.1 hd;unfold Ky.enc at hl;unfold DenL at hl;obtain⟨v1,t1,rfl,_,h1,hl⟩:=hl;unfold DenL at hl;obtain⟨v2,t2,rfl,_,h2,hl⟩:=hl;unfold DenL at hl;obtain⟨v3,t3,rfl,_,h3,hl⟩:=hl;unfold DenL at hl;subst hl;obtain⟨a1,c1,rfl,r1⟩:=gU.1 h1;obtain⟨a2,c2,rfl,r2⟩:=gU.1 h2;obtain⟨a3,c3,rfl,r3⟩:=gU.1 h3;exact⟨a1,c1,a2,c2,a3,c3,U,r1,r2,r3⟩
theorem k8 (k:Ky):FnD prog 136 [.st k.enc] (.b (kyB k)):=.mk λh vs hT hd=>by
 obtain⟨v,rfl,h1⟩:=gB hd;obtain⟨a1,c1,a2,c2,a3,c3,rfl,r1,r2,r3⟩:=uw h1;exact(mo r1 r2 r3).mono λv h' _ e=>⟨_,U,by rw [e];exact(dH (h:=h')).2 U⟩
instance:Cn prog 136 (type_of% @k8):=⟨@k8⟩
theorem iK (k:Ky) (h1:k.n.length<=100000) (h2:k.e.length<=100000) (h3:k.d.length<=100000):FnD prog 257 [.st k.enc] (.b (kyB k)):=.mk λh vs hT hd=>by
 obtain⟨v,rfl,g1⟩:=gB hd;obtain⟨a1,c1,a2,c2,a3,c3,rfl,r1,r2,r3⟩:=uw g1;exact(kM r1 r2 r3 h1 h2 h3).mono λv h' _ e=>⟨_,U,by rw [e];exact(dH (h:=h')).2 U⟩
instance:Cn prog 257 (type_of% @iK):=⟨@iK⟩
theorem k9 (k:Ky) (h1:k.n.length<=4096) (h2:k.e.length<=4096):FnD prog 122 [.st k.enc] (.tup [.bs (keyBL k.n k.e k.d),.i (keyBE k.n k.e k.d)]):=.mk λh vs hT hd=>by
 obtain⟨v,rfl,g1⟩:=gB hd;obtain⟨a1,c1,a2,c2,a3,c3,rfl,r1,r2,r3⟩:=uw g1;exact(vx r1 r2 r3 hT h1 h2).mono λv h' _ ⟨a,c,e,r⟩=>⟨_,U,by rw [e];exact fU ((dm (h:=h')).2 ⟨_,_,U,r⟩) (cj (h:=h'))⟩
instance:Cn prog 122 (type_of% @k9):=⟨@k9⟩
theorem iL (k:Ky) (h1:k.n.length<=4096) (h2:k.e.length<=4096) (h3:k.d.length<=4096):FnD prog 229 [.st k.enc] (.tup [.bs (keyBL k.n k.e k.d),.i (keyBE k.n k.e k.d)]):=.mk λh vs hT hd=>by
 obtain⟨v,rfl,g1⟩:=gB hd;obtain⟨a1,c1,a2,c2,a3,c3,rfl,r1,r2,r3⟩:=uw g1;exact(vp r1 r2 r3 h1 h2 h3).mono λv h' _ ⟨a,c,e,r⟩=>⟨_,U,by rw [e];exact fU ((dm (h:=h')).2 ⟨_,_,U,r⟩) (cj (h:=h'))⟩
instance:Cn prog 229 (type_of% @iL):=⟨@iL⟩
structure CrW (c:Crt):Prop where
 ser:c.serial.length<=4096
 isu:c.issuer.length<=1000000
 isuB:∀ a∈c.issuer,a.oid.length<=1000000/\a.text.length<=1000000
 sub:c.subject.length<=1000000
 subB:∀ a∈c.subject,a.oid.length<=1000000/\a.text.length<=1000000
 kn:c.key.n.length<=4096
 ke:c.key.e.length<=4096
 kd:c.key.d.length<=4096
 ex:c.exts.length<=100000
 exB:∀ x∈c.exts,XtS x
 sg:c.sig.length<=100000
def rightE (c:Crt):Int:=if nbitsI c.serial=0 then 60 else if 160<nbitsI c.serial then 60 else if shaSize c.hash=0 then 60 else if timeE c.frm≠0 then 60 else if timeE c.to_≠0 then 60 else
 if nameE c.issuer≠0 then 61 else if nameE c.subject≠0 then 61 else if kyB c.key=false then 50 else if 0<nbitsI c.key.d then 50 else if extsB c.exts=false then 62 else 0
theorem tu (c:Crt) (h:CrW c):FnD prog 82 [.st c.enc] (.i (rightE c)):=by
 obtain⟨b1,b2,b3,b4,b5,b6,b7,b8,b9,b10,b11⟩:=h;have c1:=iD c.issuer b2 b3;have c2:=iD c.subject b4 b5;have c3:=exts_d c.exts b9 b10;have c4:=k8 c.key;unfold rightE;exact aE func82 U ntmps82 U (λe=>Z)
instance:Cn prog 82 (type_of% @tu):=⟨@tu⟩
def certE (c:Crt):Int:=if(c.sig.length:Int)<1 then 60 else if 512<(c.sig.length:Int) then 60 else rightE c
theorem gw (c:Crt) (h:CrW c):FnD prog 41 [.st c.enc] (.i (certE c)):=by
 unfold certE;exact aE func41 U ntmps41 U (λe=>Z)
instance:Cn prog 41 (type_of% @gw):=⟨@gw⟩
theorem Wn {p q:Prop}(k:q) (h:Tg q->p:=by
 intro k
 repeat (refine KX ?_;first
  |refine RX1 rfl rfl ?_
  |refine JX.s2r rfl rfl rfl rfl rfl rfl ?_
  |refine cK rfl (St1.val2 rfl rfl rfl) ?_)
 exact k.k):p:=h ⟨k⟩
theorem Wp {p q:Prop}(k:q) (h:Tg q->p:=by
 intro k
 repeat (first
  |(refine KL ?_;first
   |refine JLD.nil ?_
   |refine R3 rfl rfl ?_
   |(refine KCall ?_;first|refine CaI rfl rfl z21_ ?_|refine Ca rfl rfl z7_ ?_)
   |refine bx (St1.pk rfl rfl rfl) ?_
   |refine bx (St1.val2 rfl rfl rfl) ?_)
  |(refine KJ ?_;first
   |refine JD.seq ?_
   |refine JD.region ?_
   |refine JD.skip ?_
   |refine JD.block ?_
   |refine JD.exit ?_
   |refine Ct rfl ?_
   |refine Cf rfl ?_
   |refine Cqt rfl ?_
   |refine Cqf rfl ?_))
 exact k.k):p:=h ⟨k⟩
def oRsa:Txt:=[49,46,50,46,56,52,48,46,49,49,51,53,52,57,46,49,46,49,46,49]
def expK (l:List Xt):LN:=if l=[] then [] else [.mk 2 3 true [] [.mk 0 16 true [] (l.map extN)]]
def bodK (c:Crt) (kb:Txt):LN:=[.mk 2 0 true [] [.mk 0 2 false (intB 2) []],natN c.serial,algN c.hash,nameN c.issuer,.mk 0 16 true [] [timeN c.frm,timeN c.to_],nameN c.subject,.mk 0 16 true [] [.mk 0 16 true [] [oiN oRsa,.mk 0 5 false [] []],.mk 0 3 false (0::kb) []]]
def bodN (c:Crt) (kb:Txt):Nd:=.mk 0 16 true [] (bodK c kb++expK c.exts)
abbrev kyL (k:Ky):Txt:=keyBL k.n k.e k.d
def crtB (c:Crt):Nd:=bodN c (kyL c.key)
def crtN (c:Crt):Nd:=if certE c=0 then .mk 0 16 true [] [crtB c,algN c.hash,.mk 0 3 false (0::c.sig) []] else ndZ0
theorem ctseq_o (l:LN) (hz:Nd.szL l<=1099511627776):FnO prog 66 35 kN [.nds l] [.i 0,.i 16,.v (.bool true),nilV] l:=.mk λh vs hT hd=>by
 obtain⟨v,rfl,h1⟩:=gB hd;obtain⟨a,cc,rfl,hR⟩:=dN.1 h1;have hb:=hR.big;exact(seqo_fn hR hz).mono λe h' Lo _ ⟨v,he,a',c',xs,e1,e2,e3⟩=>⟨v,he,[.int .i64 0,.int .i64 16,.bool true,.slice none 0 0],a',c',xs,e1,.c U (cj (h:=h')) (.c U (cj (h:=h')) (.c U (cj (h:=h')) (.c U (cj (h:=h')) .n))),e2,e3,hb⟩
theorem fk (t:Int):(timeN t).sz<=300:=by
 have h1:=jP t;have h2:=mm t;unfold timeN;(repeat' split)<;>simp only [Nd.sz,Nd.szL,aG]<;>omega
theorem iY (h:Int):(algN h).sz<=400:=by
 have:=uT h;have:=dZ (algO h);unfold algN;split<;>simp only [Nd.sz,Nd.szL,aG]<;>omega
theorem mq {k:Ky}(h1:k.n.length<=4096) (h2:k.e.length<=4096):(kyL k).length<=400000:=by
 show(keyBL k.n k.e k.d).length<=400000;unfold keyBL;split
 ·have hw:=ub h1 h2;have hz:=lr k.n k.e h1 h2;have e1:=fp k.n;have e2:=fp k.e;have b1:=gW k.n;have b2:=gW k.e;have hs:(keyNd k.n k.e).sz<=40000:=by
   simp only [keyNd,Nd.sz,Nd.szL,aG];omega
  have hl:8*(keyNd k.n k.e).sz<=400000:=by omega
  cases hp:(keyNd k.n k.e).put with
  |none=>simp
  |some t =>
   have:=(dF _ _ _ (aL _) hp).2;simp only [Option.getD_some];omega
 ·simp
theorem extN_sz {x:Xt}(h:XtS x):(extN x).sz<=1300000:=by
 have:=dZ x.oid;have h1:=h.o;have h2:=h.v;unfold extN;split
 ·split<;>simp only [Nd.sz,Nd.szL,aG,aC]<;>omega
 ·simp [ndZ0,Nd.sz,Nd.szL]
theorem body_d (c:Crt) (h:CrW c):FnD prog 67 [.st c.enc] (.nd (crtB c)):=by
 obtain⟨b1,b2,b3,b4,b5,b6,b7,b8,b9,b10,b11⟩:=h;have c1:=iD c.issuer b2 b3;have c2:=iD c.subject b4 b5;have s1:=ou b3;have s2:=ou b5;have s3:=k6 c.serial b1;have s4:=fk c.frm;have s5:=fk c.to_;have s6:=iY c.hash;have s7:=mq b6 b7;have s8:(oiN oRsa).sz<=300:=Nat.le_trans (dZ _) bT;have s9:(intB 2).length<=8:=(eO 2 bT bT).2.2.1;have s10:Nd.szL (c.exts.map extN)<=100000*1300000:=Nat.le_trans (fX extN 1300000 c.exts λx hx=>extN_sz (b10 x hx)) (bD _ b9);have hq0:=seq0_d;have hky:=k9 c.key b6 b7;have hN:crtB c=.mk 0 16 true [] (bodK c (kyL c.key)++expK c.exts):=rfl;refine aE func67 U ntmps67 U (λe=>?_);refine Wp ?_;refine Xg mK U U U ?_;refine Cx U U (int_d 2) ?_;refine Wn ?_;refine Cx U U (jC (by simp only [Nd.szL,Nd.sz,aG];omega)) ?_;refine Wn ?_;refine Cx U U (jx c.serial b1) ?_;refine Wn ?_;refine Cx U U (alg_d c.hash) ?_;refine Wn ?_;refine Cx U U (vi [timeN c.frm,timeN c.to_] (by simp only [Nd.szL];omega)) ?_;refine Wn ?_;refine Cx U U tG ?_;refine Wn ?_;refine Cx U U (vi [oiN oRsa,.mk 0 5 false [] []] (by simp only [Nd.szL,Nd.sz,aG];omega)) ?_;refine Wn ?_;refine Cx U U (bits_d (kyL c.key) z2_) ?_;refine Wn ?_;refine Cx U U (vi [.mk 0 16 true [] [oiN oRsa,.mk 0 5 false [] []],.mk 0 3 false (0::kyL c.key) []] (by simp only [Nd.szL,Nd.sz,aG,aC];omega)) ?_;refine Wn ?_;refine Xco (K:=kN) U U (ctseq_o (bodK c (kyL c.key)) (by simp only [bodK,Nd.szL,Nd.sz,aG,aC];omega)) U ?_;refine Wn ?_;refine df U ?_;refine W ?_;refine Ci U (λh1=>?_) (λh1=>?_)
 ·refine W ?_;refine Rv kN 9 4 35 U U U U U U ?_;refine Lp (γ:=Nat) (λg=>g<=c.exts.length) (λg=>c.exts.length+1-g)
   (λg=>[(2,.own 1 0),(15,.own 8 0),(16,.own 9 0),(86,.d (.sl 3 Xt.enc c.exts)),(87,.d (.i (c.exts.length:Int))),(88,.d (.i (g:Int)))])
   (λg=>[(9,.var 35 [.d (.i 0),.d (.i 16),.d (.v (.bool true)),.d nilK,.row 10]),(10,.row 35 (.nds ((c.exts.take g).map extN))),(8,.var 35 [.d (.i 0),.d (.i 16),.d (.v (.bool true)),.d nilK,.row 7]),(7,.row 35 (.nds (bodK c (kyL c.key)))),(1,.var 35 [.d (.i 0),.d (.i 0),.d (.b false),.d nilK,.d nilK])]) 0 z2_ ⟨U,U,U,U,U,U,trivial⟩ ⟨U,U,U,U,U,trivial⟩ ?_
  intro g hg;have hml:((c.exts.take g).map extN).length<=100000:=by rw [aD];have:=List.length_take_le' g c.exts;omega
  refine W ?_;refine Ci U (λh2=>?_) (λh2=>?_)
  ·have hlt:g<c.exts.length:=by omega
   have hget:c.exts.getD g default=c.exts[g]:=bG hlt;obtain⟨x1,x2⟩:=b10 _ (aF hlt);rw [<- hget] at x1 x2;have c3:=jw (c.exts.getD g default) z2_ z2_;have htk:(c.exts.take (g+1)).map extN=(c.exts.take g).map extN++[extN (c.exts.getD g default)]:=by rw [am hlt,List.map_append,hget];rfl
   refine W ?_;refine⟨g+1,by omega,by omega,⟨U,U,U,U,U,U,trivial⟩,?_⟩;show WkO [(9,.var 35 [.d (.i 0),.d (.i 16),.d (.v (.bool true)),.d nilK,.row 10]),(10,.row 35 (.nds ((c.exts.take (g+1)).map extN))),(8,.var 35 [.d (.i 0),.d (.i 16),.d (.v (.bool true)),.d nilK,.row 7]),(7,.row 35 (.nds (bodK c (kyL c.key)))),(1,.var 35 [.d (.i 0),.d (.i 0),.d (.b false),.d nilK,.d nilK])] _;rw [htk];exact⟨U,U,U,U,U,trivial⟩
  ·have hge:g=c.exts.length:=by omega
   subst hge;rw [List.take_length];refine Pb 10 U ?_;refine W ?_;refine Xap kN U U U U U U U (by simp [bodK]) U U U ?_;refine RX1 U U ?_;refine df U ?_;refine Nvk 7 U U U U U ?_;refine Pb 7 U ?_;refine W ?_;refine Rt U U ?_;rw [hN];unfold expK;rw [if_neg (by rintro e;rw [e] at h1;simp at h1)];rfl
 ·have e0:c.exts=[]:=List.eq_nil_of_length_eq_zero z2_;refine Pb 7 U ?_;refine W ?_;refine Rt U U ?_;rw [hN,e0];rfl
theorem szl_w {α:Type}(f:α->Nd) (w:α->Nat) (h:∀ x,(f x).sz<=32*w x):∀ l:List α,Nd.szL (l.map f)<=32*wS w l
 |[]=>by simp [Nd.szL]
 |x::r=>by
  have h1:=h x;have h2:=szl_w f w h r;simp only [List.map_cons,Nd.szL,wS];omega
theorem ot (l:List At):(nameN l).sz<=32*wS atW l+1:=by
 rw [k7];unfold nameM;have:=szl_w atM atW (λa=>by
  have:=atS_sz a;simp only [atM,Nd.sz,Nd.szL,aG,atW];omega) l
 split<;>simp only [ndZ0,Nd.sz,Nd.szL,aG]<;>omega
theorem exts_w (l:List Xt):Nd.szL (l.map extN)<=32*wS xtW l:=szl_w extN xtW (λx=>by
 have:=dZ x.oid;unfold extN
 (repeat' split)<;>simp only [ndZ0,Nd.sz,Nd.szL,aG,aC,xtW]<;>omega) l
theorem iX {l:List At}{a:At}(h:a∈l):a.oid.length+a.text.length<=wS atW l:=by
 have:=gz atW h;unfold atW at *;omega
theorem mE {c:Crt}(h:crtW c<=12000):CrW c:=by
 unfold crtW at h;have h1:=eM atW (λa=>by unfold atW;omega) c.issuer;have h2:=eM atW (λa=>by unfold atW;omega) c.subject;have h3:=eM xtW (λa=>by unfold xtW;omega) c.exts;exact⟨by omega,by omega,λa ha=>by have:=iX ha;omega,by omega,λa ha=>by have:=iX ha;omega,by omega,by omega,by omega,by omega,λx hx=>by
  have:=gz xtW hx;unfold xtW at *;exact⟨by omega,by omega⟩,by omega⟩
theorem iV {c:Crt}(h:crtW c<=12000):(crtB c).sz<=900000/\(crtN c).sz<=1000000:=by
 have hw:=mE h;unfold crtW at h;have s1:=ot c.issuer;have s2:=ot c.subject;have s3:=k6 c.serial hw.ser;have s4:=fk c.frm;have s5:=fk c.to_;have s6:=iY c.hash;have s7:=mq hw.kn hw.ke;have s8:(oiN oRsa).sz<=300:=Nat.le_trans (dZ _) bT;have s9:(intB 2).length<=8:=(eO 2 bT bT).2.2.1;have s10:=exts_w c.exts;have e1:Nd.szL (expK c.exts)<=Nd.szL (c.exts.map extN)+2:=by
  unfold expK;split<;>simp only [Nd.szL,Nd.sz,aG]<;>omega
 have e2:∀ l r:LN,Nd.szL (l++r)=Nd.szL l+Nd.szL r:=λl r=>by
  induction l with
  |nil=>simp [Nd.szL]
  |cons x l ih=>simp only [List.cons_append,Nd.szL,ih];omega
 have hB:(crtB c).sz<=900000:=by
  unfold crtB bodN;simp only [Nd.sz,e2,aG];simp only [bodK,Nd.sz,Nd.szL,aG,aC];omega
 refine⟨hB,?_⟩;unfold crtN;split<;>simp only [ndZ0,Nd.sz,Nd.szL,aG,aC]<;>omega
theorem ku (c:Crt) (h:crtW c<=12000):FnD prog 28 [.st c.enc] (.tup [.nd (crtN c),.i (certE c)]):=by
 have hw:=mE h;have hs:=(iV h).1;have s6:=iY c.hash;have c1:=body_d c hw;have c2:=gw c hw;have hl:=hw.sg;unfold crtN;refine aE func28 U ntmps28 U (λe=>?_);refine W ?_;refine Ci U (λh1=>?_) (λh1=>?_)
 ·rw [if_neg h1];refine W ?_;exact Rt U U U
 ·have h1':certE c=0:=by simpa using h1
  rw [if_pos h1'];refine W ?_;exact Rt U U (by simp only [resD,h1'])
instance:Cn prog 28 (type_of% @ku):=⟨@ku⟩
def cbP (c:Crt):Txt:=if certE c=0 then(crtN c).wr.1 else []
theorem sH (c:Crt) (h:crtW c<=12000):FnE prog 88 [.st c.enc] (λd=>∃ e:Int,d=.tup [.bs (cbP c),.i e]):=by
 have hs:=(iV h).2;unfold cbP;refine aE func88 U ntmps88 U (λe=>?_);refine W ?_;refine Ci U (λh1=>?_) (λh1=>?_)
 ·rw [if_neg h1];refine W ?_;exact Rt U U ⟨_,U⟩
 ·have h1':certE c=0:=by simpa using h1
  rw [if_pos h1'];refine W ?_;exact Rt U U ⟨_,U⟩
theorem gx (c:Crt) (h:crtW c<=12000):FnD prog 45 [.st c.enc] (.bs (cbP c)):=by
 refine aE func45 U ntmps45 U (λe=>?_);refine W ?_;refine Ce U U (sH c h) (λd' hd=>?_);obtain⟨e1,rfl⟩:=hd;refine W ?_;exact Rt U U U
instance:Cn prog 45 (type_of% @gx):=⟨@gx⟩
theorem tT (a b:List UInt32):FnD prog 139 [.ws a,.ws b] (.i (cmpI3 (vL a) (vL b))):=.mk λh vs hT hd=>by
 obtain⟨v,w,rfl,h1,h2⟩:=den2 hd;obtain⟨_,_,rfl,hR⟩:=gU.1 h1;obtain⟨_,_,rfl,hR'⟩:=gU.1 h2;exact(mh hR hR').d (cj (h:=h))
instance:Cn prog 139 (type_of% @tT):=⟨@tT⟩
def serB (s:List UInt32):Bool:=decide (0<nbitsI s)&&decide (nbitsI s<=160)
theorem tg (s:List UInt32):FnD prog 138 [.ws s] (.b (serB s)):=by
 unfold serB;exact aE func138 U ntmps138 U (λe=>Z)
instance:Cn prog 138 (type_of% @tg):=⟨@tg⟩
theorem rO (l:LN) (hz:Nd.szL l<=1099511627776):FnD prog 70 [.nds l] (.nd (.mk 0 16 true [] l)):=by
 exact aE func70 U ntmps70 U (λe=>Z)
instance:Cn prog 70 (type_of% @rO):=⟨@rO⟩
theorem ptseq0_d:FnD prog 70 [.nds []] (.st [.i 0,.i 16,.v (.bool true),nilK,nilK]):=by
 have h0:=cons0_d 0 16;refine aE func70 U ntmps70 U (λe=>?_);refine W ?_;exact Rt0 U U U
theorem ptseq_o (l:LN) (hz:Nd.szL l<=1099511627776):FnO prog 70 35 kN [.nds l] [.i 0,.i 16,.v (.bool true),nilV] l:=.mk λh vs hT hd=>by
 obtain⟨v,rfl,h1⟩:=gB hd;obtain⟨a,cc,rfl,hR⟩:=dN.1 h1;have hb:=hR.big;exact(ptseqo_fn hR hz).mono λe h' Lo _ ⟨v,he,a',c',xs,e1,e2,e3⟩=>⟨v,he,[.int .i64 0,.int .i64 16,.bool true,.slice none 0 0],a',c',xs,e1,.c U (cj (h:=h')) (.c U (cj (h:=h')) (.c U (cj (h:=h')) (.c U (cj (h:=h')) .n))),e2,e3,hb⟩
def goneAt (l:List Gn) (i:Nat):Bool:=decide (timeE (l.getD i default).at_=0)&&serB (l.getD i default).serial&&(decide (i=0)||decide (0<cmpI3 (vL (l.getD i default).serial) (vL (l.getD (i-1) default).serial)))
def goneB (l:List Gn):Bool:=decide (∀ j,j<l.length->goneAt l j=true)
def clRE (l:Cl):Int:=if shaSize l.hash=0 then 60 else if timeE l.this≠0 then 60 else if timeE l.next≠0 then 60 else if l.next<l.this then 60 else if 1000<(l.gone.length:Int) then 60 else if goneB l.gone=false then 60 else if nameE l.issuer≠0 then 61 else 0
def clE (l:Cl):Int:=if(l.sig.length:Int)<1 then 60 else if 512<(l.sig.length:Int) then 60 else clRE l
theorem tq (l:Cl) (hw:clW l<=12000):FnD prog 83 [.st l.enc] (.i (clRE l)):=by
 unfold clW at hw;have h1:=eM atW (λa=>by unfold atW;omega) l.issuer;have h2:=eM gnW (λa=>by unfold gnW;omega) l.gone;have c1:=iD l.issuer z2_ (λa ha=>by have:=iX ha;omega);unfold clRE;refine aE func83 U ntmps83 U (λe=>?_);refine W ?_;refine Bg U U (λg1=>?_) (λg1=>?_)
 ·rw [if_pos g1];refine W ?_;exact Rt U U U
 rw [if_neg g1];refine W ?_;refine Bg U U (λg2=>?_) (λg2=>?_)
 ·rw [if_pos g2];refine W ?_;exact Rt U U U
 rw [if_neg (by simpa using g2)];refine W ?_;refine Bg U U (λg3=>?_) (λg3=>?_)
 ·rw [if_pos g3];refine W ?_;exact Rt U U U
 rw [if_neg (by simpa using g3)];refine W ?_;refine Bg U U (λg4=>?_) (λg4=>?_)
 ·rw [if_pos g4];refine W ?_;exact Rt U U U
 rw [if_neg g4];refine W ?_;refine Ci U (λg5=>?_) (λg5=>?_)
 ·rw [if_pos g5];refine W ?_;exact Rt U U U
 rw [if_neg g5];refine W ?_;refine Lp (γ:=Nat) (λg=>g<=l.gone.length/\∀ j,j<g->goneAt l.gone j=true) (λg=>l.gone.length+1-g)
  (λg=>[(1,.own 0 0),(51,.d (.sl 2 Gn.enc l.gone)),(52,.d (.i (l.gone.length:Int))),(53,.d (.i (g:Int)))]) (λ_=>[(0,.whl 72 (.st l.enc))]) 0 ⟨by omega,λj hj=>by omega⟩ ⟨U,U,U,U,trivial⟩ ⟨U,trivial⟩ ?_
 rintro g ⟨hg,hall⟩;refine W ?_;refine Ci U (λh3=>?_) (λh3=>?_)
 ·have hlt:g<l.gone.length:=by omega
  have bad:goneAt l.gone g=false->goneB l.gone=false:=λhb=>au λhh=>by rw [hh g hlt] at hb;cases hb
  refine W ?_;refine BXl 66 U (λhc q1=>?_) (λhc q1=>?_)
  ·rw [hc,if_pos (bad (by unfold goneAt;rw [au q1];rfl))];refine W ?_;exact Rt U U U
  rw [hc];refine W ?_;refine BXl 72 U (λhc2 q2=>?_) (λhc2 q2=>?_)
  ·rw [hc2,if_pos (bad (by unfold goneAt;rw [show serB (l.gone.getD g default).serial=false by simpa using hc2];simp))];refine W ?_;exact Rt U U U
  rw [hc2];refine W ?_;have q1':decide (timeE (l.gone.getD g default).at_=0)=true:=by simpa using q1
  have q2':serB (l.gone.getD g default).serial=true:=by simpa using hc2
  refine BXl 75 U (λhc3 q3=>?_) (λhc3 q3=>?_)
  ·rw [hc3];have e1:((g:Int)-1).toNat=g-1:=by omega
   refine W ?_;rw [e1];refine Ci U (λq4=>?_) (λq4=>?_)
   ·rw [if_pos (bad (by unfold goneAt;rw [au (p:=0<cmpI3 _ _) z2_,au (p:=g=0) z2_];simp))];refine W ?_;exact Rt U U U
   ·refine W ?_;refine⟨g+1,by omega,⟨by omega,λj hj=>?_⟩,⟨U,U,U,U,trivial⟩,⟨U,trivial⟩⟩;by_cases hjg:j=g
    ·subst hjg;unfold goneAt;rw [q1',q2',aj (p:=0<cmpI3 _ _) z2_];simp
    ·exact hall j z2_
  ·rw [hc3];refine W ?_;refine⟨g+1,by omega,⟨by omega,λj hj=>?_⟩,⟨U,U,U,U,trivial⟩,⟨U,trivial⟩⟩;by_cases hjg:j=g
   ·subst hjg;unfold goneAt;rw [q1',q2',aj (p:=j=0) z2_];rfl
   ·exact hall j z2_
 ·have ok:goneB l.gone=true:=aj λj hj=>hall j z2_;rw [if_neg (by rw [ok];simp)];refine W ?_;refine Ci U (λq5=>?_) (λq5=>?_)
  ·rw [if_pos q5];refine W ?_;exact Rt U U U
  ·rw [if_neg (by simpa using q5)];refine W ?_;exact Rt U U U
instance:Cn prog 83 (type_of% @tq):=⟨@tq⟩
theorem gn (l:Cl) (hw:clW l<=12000):FnD prog 42 [.st l.enc] (.i (clE l)):=by
 unfold clE;exact aE func42 U ntmps42 U (λe=>Z)
instance:Cn prog 42 (type_of% @gn):=⟨@gn⟩
def gnN (g:Gn):Nd:=.mk 0 16 true [] [natN g.serial,timeN g.at_]
def gonK (l:List Gn):LN:=if l=[] then [] else [.mk 0 16 true [] (l.map gnN)]
def clK (l:Cl):LN:=[.mk 0 2 false (intB 1) [],algN l.hash,nameN l.issuer,timeN l.this,timeN l.next]
def clB (l:Cl):Nd:=.mk 0 16 true [] (clK l++gonK l.gone)
def clN (l:Cl):Nd:=if clE l=0 then .mk 0 16 true [] [clB l,algN l.hash,.mk 0 3 false (0::l.sig) []] else ndZ0
theorem gnN_w (g:Gn) (h:g.serial.length<=4096):(gnN g).sz<=20400:=by
 have h1:=k6 g.serial h;have h2:=fk g.at_;simp only [gnN,Nd.sz,Nd.szL,aG];omega
theorem gone_sz {l:List Gn}(h:wS gnW l<=12000):Nd.szL (l.map gnN)<=12000*20400:=by
 have h2:=eM gnW (λa=>by unfold gnW;omega) l;refine Nat.le_trans (fX gnN 20400 l λg hg=>?_) (bD _ z2_);have:=gz gnW hg;have e:gnW g=1+4*g.serial.length:=rfl;exact gnN_w g z2_
theorem sG {l:Cl}(h:clW l<=12000):(clB l).sz<=300000000/\Nd.szL (clK l)<=1000000:=by
 unfold clW at h;have s1:=ot l.issuer;have s4:=fk l.this;have s5:=fk l.next;have s6:=iY l.hash;have s9:(intB 1).length<=8:=(eO 1 bT bT).2.2.1;have s10:=gone_sz (l:=l.gone) z2_;have e1:Nd.szL (gonK l.gone)<=Nd.szL (l.gone.map gnN)+1:=by
  unfold gonK;split<;>simp only [Nd.szL,Nd.sz,aG]<;>omega
 have e2:∀ l r:LN,Nd.szL (l++r)=Nd.szL l+Nd.szL r:=λl r=>by
  induction l with
  |nil=>simp [Nd.szL]
  |cons x l ih=>simp only [List.cons_append,Nd.szL,ih];omega
 have hK:Nd.szL (clK l)<=1000000:=by
  simp only [clK,Nd.sz,Nd.szL,aG];omega
 refine⟨?_,hK⟩;unfold clB;simp only [Nd.sz,e2,aG];omega
theorem pbody_d (l:Cl) (hw:clW l<=12000):FnD prog 71 [.st l.enc] (.nd (clB l)):=by
 have hs:=sG hw;have hg:=gone_sz (l:=l.gone) (by unfold clW at hw;omega);unfold clW at hw;have h1:=eM atW (λa=>by unfold atW;omega) l.issuer;have h2:=eM gnW (λa=>by unfold gnW;omega) l.gone;have c1:=iD l.issuer z2_ (λa ha=>by have:=iX ha;omega);have hq0:=ptseq0_d;have hN:clB l=.mk 0 16 true [] (clK l++gonK l.gone):=rfl;refine aE func71 U ntmps71 U (λe=>?_);refine Wp ?_;refine Xg mK U U U ?_;refine Cx U U (int_d 1) ?_;refine Wn ?_;refine Cx U U (alg_d l.hash) ?_;refine Wn ?_;refine Xco (K:=kN) U U (ptseq_o (clK l) z2_) U ?_;refine Wn ?_;refine df U ?_;refine W ?_;refine Ci U (λg1=>?_) (λg1=>?_)
 ·refine W ?_;refine Rv kN 7 4 35 U U U U U U ?_;refine Lp (γ:=Nat) (λg=>g<=l.gone.length) (λg=>l.gone.length+1-g)
   (λg=>[(2,.own 1 0),(9,.own 6 0),(10,.own 7 0),(48,.d (.sl 2 Gn.enc l.gone)),(49,.d (.i (l.gone.length:Int))),(50,.d (.i (g:Int)))])
   (λg=>[(7,.var 35 [.d (.i 0),.d (.i 16),.d (.v (.bool true)),.d nilK,.row 8]),(8,.row 35 (.nds ((l.gone.take g).map gnN))),(6,.var 35 [.d (.i 0),.d (.i 16),.d (.v (.bool true)),.d nilK,.row 5]),(5,.row 35 (.nds (clK l))),(1,.var 35 [.d (.i 0),.d (.i 0),.d (.b false),.d nilK,.d nilK])]) 0 z2_ ⟨U,U,U,U,U,U,trivial⟩ ⟨U,U,U,U,U,trivial⟩ ?_
  intro g hgg;have hml:((l.gone.take g).map gnN).length<=100000:=by rw [aD];have:=List.length_take_le' g l.gone;omega
  refine W ?_;refine Ci U (λh2=>?_) (λh2=>?_)
  ·have hlt:g<l.gone.length:=by omega
   have hget:l.gone.getD g default=l.gone[g]:=bG hlt;have hm:=gz gnW (aF hlt);have hm2:gnW (l.gone[g])=1+4*(l.gone[g]).serial.length:=rfl;rw [<- hget] at hm hm2;have n1:=k6 (l.gone.getD g default).serial z2_;have n2:=fk (l.gone.getD g default).at_;have c3:=jx (l.gone.getD g default).serial z2_;have htk:(l.gone.take (g+1)).map gnN=(l.gone.take g).map gnN++[gnN (l.gone.getD g default)]:=by rw [am hlt,List.map_append,hget];rfl
   refine W ?_;refine Xap kN U U U U U U U (by simp only [aC,aG];omega) U U U ?_;refine RX1 U U ?_;refine df U ?_;refine Nvk 8 U U U U U ?_;refine W ?_;refine⟨g+1,by omega,by omega,⟨U,U,U,U,U,U,trivial⟩,?_⟩;show WkO [(7,.var 35 [.d (.i 0),.d (.i 16),.d (.v (.bool true)),.d nilK,.row 8]),(8,.row 35 (.nds ((l.gone.take (g+1)).map gnN))),(6,.var 35 [.d (.i 0),.d (.i 16),.d (.v (.bool true)),.d nilK,.row 5]),(5,.row 35 (.nds (clK l))),(1,.var 35 [.d (.i 0),.d (.i 0),.d (.b false),.d nilK,.d nilK])] _;rw [htk];exact⟨U,U,U,U,U,trivial⟩
  ·have hge:g=l.gone.length:=by omega
   subst hge;rw [List.take_length];refine Pb 8 U ?_;refine W ?_;refine Ap kN U U U U U U (by simp [clK]) U U U U ?_;refine W ?_;refine Pl 5 U ?_;refine W ?_;refine Rt U U ?_;rw [hN];unfold gonK;rw [if_neg (by rintro e;rw [e] at g1;simp at g1)];rfl
 ·have e0:l.gone=[]:=List.eq_nil_of_length_eq_zero z2_;refine Pb 5 U ?_;refine W ?_;refine Rt U U ?_;rw [hN,e0];rfl
theorem ser_sz {s:List UInt32}(h:serB s=true):(natN s).sz<=22:=by
 have h1:=(fp s).2.2;have h2:=ik s;unfold serB at h;rw [Bool.and_eq_true,ax,ax] at h;have:((nbits (d32 s) s.length:Nat):Int)<=160:=h.2;omega
theorem ne {l:Cl}(h:clW l<=12000):(clN l).sz<=2000000:=by
 unfold clN;split
 ·rename_i he;have hg:goneB l.gone=true/\(l.gone.length:Int)<=1000:=by
   unfold clE clRE at he;split at he
   ·omega
   split at he
   ·omega
   split at he
   ·omega
   split at he
   ·omega
   split at he
   ·omega
   split at he
   ·omega
   split at he
   ·omega
   split at he
   ·omega
   ·rename_i q1 q2;exact⟨by cases hh:goneB l.gone<;>simp_all,by omega⟩
  have hs:=sG h;have s6:=iY l.hash;have hl:l.sig.length<=12000:=by unfold clW at h;omega
  have s10:Nd.szL (l.gone.map gnN)<=l.gone.length*400:=fX gnN 400 l.gone λg hgm=>by
   obtain⟨i,hi,rfl⟩:=List.getElem_of_mem hgm;have ha:=of_decide_eq_true hg.1 i hi;unfold goneAt at ha;rw [bG hi,Bool.and_eq_true,Bool.and_eq_true] at ha;have h1:=ser_sz ha.1.2;have h2:=fk (l.gone[i]).at_;simp only [gnN,Nd.sz,Nd.szL,aG];omega
  have s11:l.gone.length*400<=1000*400:=bD _ z2_;have e1:Nd.szL (gonK l.gone)<=Nd.szL (l.gone.map gnN)+1:=by
   unfold gonK;split<;>simp only [Nd.szL,Nd.sz,aG]<;>omega
  have e2:∀ l r:LN,Nd.szL (l++r)=Nd.szL l+Nd.szL r:=λl r=>by
   induction l with
   |nil=>simp [Nd.szL]
   |cons x l ih=>simp only [List.cons_append,Nd.szL,ih];omega
  have hb:(clB l).sz<=1500000:=by
   unfold clB;simp only [Nd.sz,e2,aG];omega
  simp only [Nd.sz,Nd.szL,aG,aC];omega
 ·simp [ndZ0,Nd.sz,Nd.szL]
theorem jU (l:Cl) (h:clW l<=12000):FnD prog 29 [.st l.enc] (.tup [.nd (clN l),.i (clE l)]):=by
 have hs:=(sG h).1;have s6:=iY l.hash;have c1:=pbody_d l h;have c2:=gn l h;have hl:l.sig.length<=12000:=by unfold clW at h;omega
 unfold clN;refine aE func29 U ntmps29 U (λe=>?_);refine W ?_;refine Ci U (λh1=>?_) (λh1=>?_)
 ·rw [if_neg h1];refine W ?_;exact Rt U U U
 ·have h1':clE l=0:=by simpa using h1
  rw [if_pos h1'];refine Wp ?_;refine Xg mK U U U ?_;refine Wn ?_;refine Cx U U c1 ?_;refine Wn ?_;refine Cx U U (alg_d l.hash) ?_;refine Xlt kB (l:=[0]) U U U U U U U U U U ?_;refine Wn ?_;refine Xad kB U U U U U U U (by simp only [aC,aG];omega) U U U ?_;refine Cx U U tG ?_;refine Wn ?_;refine Cx U U (rO [clB l,algN l.hash,.mk 0 3 false (0::l.sig) []] (by simp only [Nd.szL,Nd.sz,aG,aC];omega)) ?_;refine Wn ?_;refine df U ?_;refine Nvk 2 U U U U U ?_;refine W ?_;exact Rt U U (by simp only [resD,h1'])
instance:Cn prog 29 (type_of% @jU):=⟨@jU⟩
def lbP (l:Cl):Txt:=if clE l=0 then(clN l).wr.1 else []
theorem rR (l:Cl) (h:clW l<=12000):FnE prog 89 [.st l.enc] (λd=>∃ e:Int,d=.tup [.bs (lbP l),.i e]):=by
 have hs:=ne h;unfold lbP;refine aE func89 U ntmps89 U (λe=>?_);refine W ?_;refine Ci U (λh1=>?_) (λh1=>?_)
 ·rw [if_neg h1];refine W ?_;exact Rt U U ⟨_,U⟩
 ·have h1':clE l=0:=by simpa using h1
  rw [if_pos h1'];refine W ?_;exact Rt U U ⟨_,U⟩
theorem iu (l:Cl) (h:clW l<=12000):FnD prog 47 [.st l.enc] (.bs (lbP l)):=by
 refine aE func47 U ntmps47 U (λe=>?_);refine W ?_;refine Ce U U (rR l h) (λd' hd=>?_);obtain⟨e1,rfl⟩:=hd;refine W ?_;exact Rt U U U
instance:Cn prog 47 (type_of% @iu):=⟨@iu⟩
theorem pt {s:Sg}(h:sgW s<=12000):SgW s:=by
 unfold sgW at h;have h1:=eM atW (λa=>by unfold atW;omega) s.issuer;have h2:=fes_of (l:=s.signed) z2_;have h3:=fes_of (l:=s.unsigned) z2_;exact⟨by omega,λa ha=>by have:=iX ha;omega,by omega,by omega,h2.2,by omega,h3.2⟩
theorem mM {s:Sg}(h:sgW s<=12000):(sgN s).sz<=2000000:=by
 have hw:=pt h;unfold sgW at h;have s1:=ot s.issuer;have s2:=k6 s.serial hw.ser;have s3:=ss s.hash;have s4:=iY s.hash;have s5:=jO s.signed;have s6:=jO s.unsigned;have i3:(intB 3).length<=8:=(eO 3 bT bT).2.2.1;have i1:(intB 1).length<=8:=(eO 1 bT bT).2.2.1;have iv:(intB (verN s)).length<=8:=by unfold verN;split<;>assumption
 have hw2:(whoN s).sz<=500000:=by
  unfold whoN;split<;>simp only [Nd.sz,Nd.szL,aG]<;>omega
 have o1:∀ t,Nd.szL (optN t s.signed)<=26*fW s.signed+1:=λt=>by
  unfold optN ctxF;split<;>simp only [Nd.sz,Nd.szL,aG]<;>omega
 have o2:∀ t,Nd.szL (optN t s.unsigned)<=26*fW s.unsigned+1:=λt=>by
  unfold optN ctxF;split<;>simp only [Nd.sz,Nd.szL,aG]<;>omega
 have e2:∀ l r:LN,Nd.szL (l++r)=Nd.szL l+Nd.szL r:=λl r=>by
  induction l with
  |nil=>simp [Nd.szL]
  |cons x l ih=>simp only [List.cons_append,Nd.szL,ih];omega
 have p1:=o1 0;have p2:=o2 1;unfold sgN;split
 ·simp only [sgK,octN,Nd.sz,Nd.szL,e2,aG];omega
 ·simp [ndZ0,Nd.sz,Nd.szL]
def sbP (s:Sg):Txt:=if sgE s≠0 then [] else(sgN s).wr.1
theorem ir (s:Sg) (h:sgW s<=12000):FnD prog 49 [.st s.enc] (.bs (sbP s)):=by
 have hz:=mM h;have hc:=ft s (pt h);unfold sbP;exact aE func49 U ntmps49 U (λe=>Z)
instance:Cn prog 49 (type_of% @ir):=⟨@ir⟩
def ordX (st:Bool) (l:List Txt):Bool:=decide (∀ j,j<l.length-1->¬ 0<Go.Lib.compareBytes (l.getD j []) (l.getD (j+1) [])/\(st=true->¬ Go.Lib.compareBytes (l.getD j []) (l.getD (j+1) [])=0))
theorem jo {α:Type} [Inhabited α] (f:α->Txt) {l:List α}{i:Nat}(h:i<l.length):(l.map f).getD i []=f (l.getD i default):=by
 rw [bG (by rw [aD];exact h),List.getElem_map,bG h]
theorem ma {α:Type} [Inhabited α] {f:α->Txt}{st:Bool}{l:List α}{g:Nat}(hg:g+1<l.length) (h:0<Go.Lib.compareBytes (f (l.getD g default)) (f (l.getD (g+1) default))\/st=true/\Go.Lib.compareBytes (f (l.getD g default)) (f (l.getD (g+1) default))=0):ordX st (l.map f)=false:=by
 refine au λhh=>?_;have:=hh g (by rw [aD];omega);rw [jo f z2_,jo f hg] at this;rcases h with h|h
 ·exact this.1 h
 ·exact this.2 h.1 h.2
theorem rS {α:Type} [Inhabited α] {f:α->Txt}{st:Bool}{l:List α}(h:∀ j,j+1<l.length->¬ 0<Go.Lib.compareBytes (f (l.getD j default)) (f (l.getD (j+1) default))/\(st=true->¬ Go.Lib.compareBytes (f (l.getD j default)) (f (l.getD (j+1) default))=0)):ordX st (l.map f)=true:=by
 refine aj λj hj=>?_;rw [aD] at hj;rw [jo f z2_,jo f z2_];exact h j z2_
theorem jX (l:List Crt) (hl:l.length<=1073741824) (hB:∀ c∈l,crtW c<=12000):FnD prog 44 [.sl 11 Crt.enc l,fnD 45,.b true] (.b (ordX true (l.map cbP))):=by
 refine aE func44 U ntmps44 U (λe=>?_);refine W ?_;refine Lp (γ:=Nat) (λg=>(g=0\/g+1<=l.length)/\∀ j,j<g->¬ 0<Go.Lib.compareBytes (cbP (l.getD j default)) (cbP (l.getD (j+1) default))/\(true=true->¬ Go.Lib.compareBytes (cbP (l.getD j default)) (cbP (l.getD (j+1) default))=0)) (λg=>l.length+1-g) (λg=>[(0,.d (.sl 11 Crt.enc l)),(1,.d (fnD 45)),(2,.d (.b true)),(7,.d (.i ((g:Int)+1)))]) (λ_=>[]) 0 ⟨.inl U,λj hj=>by omega⟩ ⟨U,U,U,U,trivial⟩ trivial ?_;rintro g ⟨hg,ho⟩;refine W ?_;refine Ci U (λh=>?_) (λh=>?_)
 ·have hgg:((g:Int)+1-1).toNat=g:=by omega
  have hg1:g+1<l.length:=by omega
  have c1:=gx (l.getD ((g:Int)+1-1).toNat default) (by rw [hgg,bG (show g<l.length by omega)];exact hB _ (aF _));have c2:=gx (l.getD (g+1) default) (by rw [bG hg1];exact hB _ (aF _));refine W ?_;rw [hgg];refine Bg U U (λh2=>?_) (λh2=>?_)
  ·rw [ma hg1 (.inl h2)];refine W ?_;exact Rt U U U
  refine W ?_;refine Bg U U (λh3=>?_) (λh3=>?_)
  ·rw [ma hg1 (.inr ⟨U,h3⟩)];refine W ?_;exact Rt U U U
  ·refine W ?_;refine⟨g+1,by omega,⟨.inr z2_,λj hj=>?_⟩,⟨U,U,U,U,trivial⟩,trivial⟩;by_cases hjg:j=g
   ·subst hjg;exact⟨h2,λ_=>h3⟩
   ·exact ho j z2_
 ·rw [rS λj hj=>ho j z2_];refine W ?_;exact Rt U U U
theorem jV (l:List Cl) (hl:l.length<=1073741824) (hB:∀ c∈l,clW c<=12000):FnD prog 46 [.sl 6 Cl.enc l,fnD 47,.b true] (.b (ordX true (l.map lbP))):=by
 refine aE func46 U ntmps46 U (λe=>?_);refine W ?_;refine Lp (γ:=Nat) (λg=>(g=0\/g+1<=l.length)/\∀ j,j<g->¬ 0<Go.Lib.compareBytes (lbP (l.getD j default)) (lbP (l.getD (j+1) default))/\(true=true->¬ Go.Lib.compareBytes (lbP (l.getD j default)) (lbP (l.getD (j+1) default))=0)) (λg=>l.length+1-g) (λg=>[(0,.d (.sl 6 Cl.enc l)),(1,.d (fnD 47)),(2,.d (.b true)),(7,.d (.i ((g:Int)+1)))]) (λ_=>[]) 0 ⟨.inl U,λj hj=>by omega⟩ ⟨U,U,U,U,trivial⟩ trivial ?_;rintro g ⟨hg,ho⟩;refine W ?_;refine Ci U (λh=>?_) (λh=>?_)
 ·have hgg:((g:Int)+1-1).toNat=g:=by omega
  have hg1:g+1<l.length:=by omega
  have c1:=iu (l.getD ((g:Int)+1-1).toNat default) (by rw [hgg,bG (show g<l.length by omega)];exact hB _ (aF _));have c2:=iu (l.getD (g+1) default) (by rw [bG hg1];exact hB _ (aF _));refine W ?_;rw [hgg];refine Bg U U (λh2=>?_) (λh2=>?_)
  ·rw [ma hg1 (.inl h2)];refine W ?_;exact Rt U U U
  refine W ?_;refine Bg U U (λh3=>?_) (λh3=>?_)
  ·rw [ma hg1 (.inr ⟨U,h3⟩)];refine W ?_;exact Rt U U U
  ·refine W ?_;refine⟨g+1,by omega,⟨.inr z2_,λj hj=>?_⟩,⟨U,U,U,U,trivial⟩,trivial⟩;by_cases hjg:j=g
   ·subst hjg;exact⟨h2,λ_=>h3⟩
   ·exact ho j z2_
 ·rw [rS λj hj=>ho j z2_];refine W ?_;exact Rt U U U
theorem jW (l:List Sg) (hl:l.length<=1073741824) (hB:∀ c∈l,sgW c<=12000):FnD prog 48 [.sl 7 Sg.enc l,fnD 49,.b false] (.b (ordX false (l.map sbP))):=by
 refine aE func48 U ntmps48 U (λe=>?_);refine W ?_;refine Lp (γ:=Nat) (λg=>(g=0\/g+1<=l.length)/\∀ j,j<g->¬ 0<Go.Lib.compareBytes (sbP (l.getD j default)) (sbP (l.getD (j+1) default))/\(false=true->¬ Go.Lib.compareBytes (sbP (l.getD j default)) (sbP (l.getD (j+1) default))=0)) (λg=>l.length+1-g) (λg=>[(0,.d (.sl 7 Sg.enc l)),(1,.d (fnD 49)),(2,.d (.b false)),(7,.d (.i ((g:Int)+1)))]) (λ_=>[]) 0 ⟨.inl U,λj hj=>by omega⟩ ⟨U,U,U,U,trivial⟩ trivial ?_;rintro g ⟨hg,ho⟩;refine W ?_;refine Ci U (λh=>?_) (λh=>?_)
 ·have hgg:((g:Int)+1-1).toNat=g:=by omega
  have hg1:g+1<l.length:=by omega
  have c1:=ir (l.getD ((g:Int)+1-1).toNat default) (by rw [hgg,bG (show g<l.length by omega)];exact hB _ (aF _));have c2:=ir (l.getD (g+1) default) (by rw [bG hg1];exact hB _ (aF _));refine W ?_;rw [hgg];refine Bg U U (λh2=>?_) (λh2=>?_)
  ·rw [ma hg1 (.inl h2)];refine W ?_;exact Rt U U U
  refine W ?_;refine Bg U U (λh3=>?_) (λh3=>?_)
  all_goals
   have hnx:∀ j,j<g+1->¬ 0<Go.Lib.compareBytes (sbP (l.getD j default)) (sbP (l.getD (j+1) default))/\(false=true->¬ Go.Lib.compareBytes (sbP (l.getD j default)) (sbP (l.getD (j+1) default))=0):=λj hj=>by
    by_cases hjg:j=g
    ·subst hjg;exact⟨h2,λh=>by cases h⟩
    ·exact ho j z2_
   refine W ?_
   first|exact⟨g+1,by omega,⟨.inr z2_,hnx⟩,⟨rfl,rfl,rfl,rfl,trivial⟩,trivial⟩|(refine Ci rfl (λh=>by cases h) (λ_=>?_);refine W ?_;exact⟨g+1,by omega,⟨.inr z2_,hnx⟩,⟨rfl,rfl,rfl,rfl,trivial⟩,trivial⟩)
 ·rw [rS λj hj=>ho j z2_];refine W ?_;exact Rt U U U
instance:Cn prog 44 (type_of% @jX):=⟨@jX⟩
instance:Cn prog 46 (type_of% @jV):=⟨@jV⟩
instance:Cn prog 48 (type_of% @jW):=⟨@jW⟩
structure SdW (s:Sd):Prop where
 ty:s.type.length<=12000
 ct:s.content.length<=12000
 cs:s.certs.length<=12000
 csB:∀ c∈s.certs,crtW c<=12000
 ls:s.crls.length<=12000
 lsB:∀ l∈s.crls,clW l<=12000
 sg:s.signers.length<=12000
 sgB:∀ x∈s.signers,sgW x<=12000
theorem sdw_of {s:Sd}(h:sdW s<=12000):SdW s:=by
 unfold sdW at h;have h1:=eM crtW1 (λa=>by unfold crtW1;omega) s.certs;have h2:=eM clW1 (λa=>by unfold clW1;omega) s.crls;have h3:=eM sgW (λa=>by unfold sgW;omega) s.signers;refine⟨by omega,by omega,by omega,λc hc=>?_,by omega,λc hc=>?_,by omega,λc hc=>?_⟩
 ·have:=gz crtW1 hc;unfold crtW1 at this h;omega
 ·have:=gz clW1 hc;unfold clW1 at this h;omega
 ·have:=gz sgW hc;omega
def sdR0 (s:Sd):Prop:=(oidB s.type).isSome=true/\(s.has=true\/s.content.length=0)/\s.certs.length<=32/\s.crls.length<=16/\s.signers.length<=16
instance (s:Sd):Decidable (sdR0 s):=by unfold sdR0;infer_instance
def sdR (s:Sd):Bool:=decide (sdR0 s)&&s.certs.all (λc=>certE c == 0)&&s.crls.all (λc=>clE c == 0)&&s.signers.all rightSg&&(ordX true (s.certs.map cbP)&&ordX true (s.crls.map lbP)&&ordX false (s.signers.map sbP))
theorem pe {α:Type} [Inhabited α] {f:α->Bool}{l:List α}{g:Nat}(hg:g<l.length) (h:(l.take g).all f=true) (h2:f (l.getD g default)=true):(l.take (g+1)).all f=true:=by
 rw [am hg,List.all_append,h,<- bG hg];simpa using h2
theorem uR {α:Type} [Inhabited α] {f:α->Bool}{l:List α}{g:Nat}(hg:g<l.length) (h2:f (l.getD g default)=false):l.all f=false:=by
 rw [List.all_eq_false];exact⟨l[g],aF hg,by rw [<- bG hg,h2];decide⟩
theorem iw (s:Sd) (h:SdW s):FnD prog 10 [.st s.enc] (.b (sdR s)):=by
 obtain⟨b1,b2,b3,b4,b5,b6,b7,b8⟩:=h;have o1:=jX s.certs z2_ b4;have o2:=jV s.crls z2_ b6;have o3:=jW s.signers z2_ b8;have o4:=qE s.type z2_;have no:¬ sdR0 s->sdR s=false:=λhn=>by unfold sdR;rw [au hn];simp
 refine aE func10 U ntmps10 U (λe=>?_);refine W ?_;refine Bg U U (λg1=>?_) (λg1=>?_)
 ·have hb:sdR s=false:=by
   simp [sdR,sdR0,g1]
  rw [hb];refine W ?_;exact Rt U U U
 refine W ?_;refine Bg U U (λg2=>?_) (λg2=>have hc:s.has=true\/s.content.length=0:=.inl g2;?_);refine W ?_;refine Bg U U (λg3=>?_) (λg3=>have hc:s.has=true\/s.content.length=0:=.inr z2_;?_)
 ·rw [no λ⟨_,r2,_⟩=>by rcases r2 with r2|r2;(· rw [g2] at r2;cases r2);omega];refine W ?_;exact Rt U U U
 all_goals
  refine W ?_;refine Bg U U (λg4=>?_) (λg4=>?_)
  ·rw [no λ⟨_,_,r,_⟩=>by omega];refine W ?_;exact Rt U U U
  refine W ?_;refine Bg U U (λg5=>?_) (λg5=>?_)
  ·rw [no λ⟨_,_,_,r,_⟩=>by omega];refine W ?_;exact Rt U U U
  refine W ?_;refine Ci U (λg6=>?_) (λg6=>?_)
  ·rw [no λ⟨_,_,_,_,r⟩=>by omega];refine W ?_;exact Rt U U U
  have hb:sdR0 s:=⟨g1,hc,by omega,by omega,by omega⟩;refine W ?_;refine Lp (γ:=Nat) (λg=>g<=s.certs.length/\(s.certs.take g).all (λc=>certE c == 0)=true) (λg=>s.certs.length+1-g) (λg=>[(1,.own 0 0),(49,.d (.sl 11 Crt.enc s.certs)),(50,.d (.i s.certs.length)),(51,.d (.i (g:Int)))]) (λ_=>[(0,.whl 27 (.st s.enc))]) 0 ⟨by omega,U⟩ ⟨U,U,U,U,trivial⟩ ⟨U,trivial⟩ ?_;rintro g ⟨hg,ha⟩;refine W ?_;refine Ci U (λh1=>?_) (λh1=>?_)
  ·have hlt:g<s.certs.length:=by omega
   have hm:s.certs.getD g default∈s.certs:=by rw [bG hlt];exact aF _
   have c1:=gw _ (mE (b4 _ hm));refine W ?_;refine Ci U (λh2=>?_) (λh2=>?_)
   ·have hb:sdR s=false:=by
     have:=uR (f:=λc=>certE c == 0) hlt (by simpa using h2);unfold sdR;rw [this];simp
    rw [hb];refine W ?_;exact Rt U U U
   ·refine W ?_;exact⟨g+1,by omega,⟨by omega,pe hlt ha (by simpa using h2)⟩,⟨U,U,U,U,trivial⟩,⟨U,trivial⟩⟩
  have hg1:g=s.certs.length:=by omega
  subst hg1;rw [List.take_length] at ha;refine W ?_;refine Lp (γ:=Nat) (λg=>g<=s.crls.length/\(s.crls.take g).all (λc=>clE c == 0)=true) (λg=>s.crls.length+1-g) (λg=>[(1,.own 0 0),(60,.d (.sl 6 Cl.enc s.crls)),(61,.d (.i s.crls.length)),(62,.d (.i (g:Int)))]) (λ_=>[(0,.whl 27 (.st s.enc))]) 0 ⟨by omega,U⟩ ⟨U,U,U,U,trivial⟩ ⟨U,trivial⟩ ?_;rintro g ⟨hg,ha2⟩;refine W ?_;refine Ci U (λh1=>?_) (λh1=>?_)
  ·have hlt:g<s.crls.length:=by omega
   have hm:s.crls.getD g default∈s.crls:=by rw [bG hlt];exact aF _
   have c1:=gn _ (b6 _ hm);refine W ?_;refine Ci U (λh2=>?_) (λh2=>?_)
   ·have hb:sdR s=false:=by
     have:=uR (f:=λc=>clE c == 0) hlt (by simpa using h2);unfold sdR;rw [this];simp
    rw [hb];refine W ?_;exact Rt U U U
   ·refine W ?_;exact⟨g+1,by omega,⟨by omega,pe hlt ha2 (by simpa using h2)⟩,⟨U,U,U,U,trivial⟩,⟨U,trivial⟩⟩
  have hg2:g=s.crls.length:=by omega
  subst hg2;rw [List.take_length] at ha2;refine W ?_;refine Lp (γ:=Nat) (λg=>g<=s.signers.length/\(s.signers.take g).all rightSg=true) (λg=>s.signers.length+1-g) (λg=>[(1,.own 0 0),(71,.d (.sl 7 Sg.enc s.signers)),(72,.d (.i s.signers.length)),(73,.d (.i (g:Int)))]) (λ_=>[(0,.whl 27 (.st s.enc))]) 0 ⟨by omega,U⟩ ⟨U,U,U,U,trivial⟩ ⟨U,trivial⟩ ?_;rintro g ⟨hg,ha3⟩;refine W ?_;refine Ci U (λh1=>?_) (λh1=>?_)
  ·have hlt:g<s.signers.length:=by omega
   have hm:s.signers.getD g default∈s.signers:=by rw [bG hlt];exact aF _
   have c1:=na _ (pt (b8 _ hm));refine W ?_;refine Ci U (λh2=>?_) (λh2=>?_)
   ·have hb:sdR s=false:=by
     have:=uR (f:=rightSg) hlt (by simpa using h2);unfold sdR;rw [this];simp
    rw [hb];refine W ?_;exact Rt U U U
   ·refine W ?_;exact⟨g+1,by omega,⟨by omega,pe hlt ha3 (by simpa using h2)⟩,⟨U,U,U,U,trivial⟩,⟨U,trivial⟩⟩
  have hg3:g=s.signers.length:=by omega
  subst hg3;rw [List.take_length] at ha3;have hR:sdR s=(ordX true (s.certs.map cbP)&&ordX true (s.crls.map lbP)&&ordX false (s.signers.map sbP)):=by
   unfold sdR;rw [aj hb,ha,ha2,ha3];simp
  rw [hR];refine W ?_;refine Bg U U (λh7=>?_) (λh7=>?_)
  ·rw [h7];refine W ?_;refine Bg U U (λh8=>?_) (λh8=>?_)
   ·rw [h8];refine W ?_;exact Rt U U U
   ·rw [h8];refine W ?_;exact Rt U U U
  ·rw [h7];refine W ?_;exact Rt U U U
instance:Cn prog 10 (type_of% @iw):=⟨@iw⟩
def sdV (s:Sd):Int:=if s.type=oData/\s.signers.all (λx=>x.ski.length == 0)=true then 1 else 3
theorem hJ (s:Sd) (h:SdW s):FnD prog 26 [.st s.enc] (.i (sdV s)):=by
 have h7:=h.sg;refine aE func26 U ntmps26 U (λe=>?_);refine W ?_;refine Ci U (λh1=>?_) (λh1=>?_)
 ·rw [show sdV s=3 from if_neg λhh=>h1 hh.1];refine W ?_;exact Rt U U U
 have ht:s.type=oData:=h1;refine W ?_;refine Lp (γ:=Nat) (λg=>g<=s.signers.length/\(s.signers.take g).all (λx=>x.ski.length == 0)=true) (λg=>s.signers.length+1-g) (λg=>[(9,.d (.sl 7 Sg.enc s.signers)),(10,.d (.i s.signers.length)),(11,.d (.i (g:Int)))]) (λ_=>[]) 0 ⟨by omega,U⟩ ⟨U,U,U,trivial⟩ trivial ?_;rintro g ⟨hg,ha⟩;refine W ?_;refine Ci U (λh1=>?_) (λh1=>?_)
 ·have hlt:g<s.signers.length:=by omega
  refine W ?_;refine Ci U (λh2=>?_) (λh2=>?_)
  ·have:=uR (f:=λx:Sg=>x.ski.length == 0) hlt (by rw [beq_eq_false_iff_ne];omega);rw [show sdV s=3 from if_neg λhh=>by rw [this] at hh;cases hh.2];refine W ?_;exact Rt U U U
  ·refine W ?_;exact⟨g+1,by omega,⟨by omega,pe hlt ha (by rw [beq_iff_eq];omega)⟩,⟨U,U,U,trivial⟩,trivial⟩
 have hg1:g=s.signers.length:=by omega
 subst hg1;rw [List.take_length] at ha;rw [show sdV s=1 from if_pos ⟨ht,ha⟩];refine W ?_;exact Rt U U U
instance:Cn prog 26 (type_of% @hJ):=⟨@hJ⟩
def valEq (m v:Txt):Bool:=decide (m=v)&&decide (0<(v.length:Int))
def trueN:Nd:=.mk 0 1 false [255] []
def intN (p:Int):Nd:=.mk 0 2 false (intB p) []
def basK (ca:Bool) (p:Int):LN:=if ca then trueN::(if 0<=p/\p<=255 then [intN p] else []) else []
def basN (ca:Bool) (p:Int):Nd:=.mk 0 16 true [] (basK ca p)
def pathR (n:Nd):Int:=if(kd n 1).intOk=true/\0<=(kd n 1).intV/\(kd n 1).intV<=255 then(kd n 1).intV else -1
def bitI (n:Int) (i:Nat):Bool:=decide (n / 2 ^ i % 2≠0)
def ubGo (n:Int):Nat->Txt×Nat
 |0=>([],0)
 |i+1=>let b:=if i % 8=0 then(ubGo n i).1++[0] else(ubGo n i).1
  if bitI n i then(b.set (i / 8) (b.getD (i / 8) 0+UInt8.ofNat (128 / 2 ^ (i % 8))),i+1) else(b,(ubGo n i).2)
def ubO (n:Int):Txt:=UInt8.ofNat (8*(((ubGo n 9).2+7) / 8)-(ubGo n 9).2)::(ubGo n 9).1.take (((ubGo n 9).2+7) / 8)
def qB (b:Txt) (i:Nat):Nat:=if 1+i / 8<b.length then(b.getD (1+i / 8) 0).toNat / 2 ^ (7-i % 8) % 2 else 0
def usO (b:Txt):Nat->Nat
 |0=>0
 |i+1=>usO b i+2 ^ i*qB b i
def usaN (n:Nd):Nd:=.mk 0 3 false (ubO (usO n.bytes 9)) []
def usaV (n:Nd):Txt:=if((ubO (usO n.bytes 9)).length:Int)=1 then [] else(usaN n).put.getD []
def useL (n:Nd):List Txt:=(n.kids.take 40).map λk=>(oidT k.bytes).getD []
def useN (l:List Txt):Nd:=.mk 0 16 true [] (l.map oiN)
def useOk (l:List Txt):Bool:=l.all (λs=>(oidB s).isSome)&&decide ((l.length:Int)<=32)&&decide (0<(l.length:Int))&&decide ((((useN l).put.getD []).length:Int)<=2000)
def skiN (b:Txt):Nd:=.mk 0 4 false b []
def skiOk (b:Txt):Bool:=decide (0<(b.length:Int))&&decide ((b.length:Int)<=64)
def saysB (x:Xt):Bool :=
 if x.oid=oBasic then valEq ((basN (decide (0<((rdTop x.val).1.kids.length:Int))) (pathR (rdTop x.val).1)).put.getD []) x.val
 else if x.oid=oUsage then valEq (usaV (rdTop x.val).1) x.val
 else if x.oid=oUses then useOk (useL (rdTop x.val).1)&&valEq ((useN (useL (rdTop x.val).1)).put.getD []) x.val
 else if x.oid=oSki then skiOk (rdTop x.val).1.bytes&&valEq ((skiN (rdTop x.val).1.bytes).put.getD []) x.val else true
theorem put_ne {m:Nd}{v:Txt}(h:m.put=some v):v≠[]:=by
 obtain⟨c,t,k,b,ks⟩:=m;simp only [Nd.put] at h;split at h
 ·obtain⟨w,_,rfl⟩:=Option.map_eq_some_iff.1 h;have:=(g9 c t k w.length).1;intro e;have e:=congrArg List.length e;simp only [aU,aG] at e;omega
 ·cases h
theorem pQ {v:Txt}(h:(rdTop v).2.2=0):(rdTop v).1.put=some v:=by
 have h1:=rd_wr h;have h2:=wr_put (n:=(rdTop v).1) (by rw [h1]);rw [h1] at h2;exact h2
theorem j8 {m:Nd}{v:Txt}(hr:m.rk<=32) (hv:v.length<=16777216):valEq (m.put.getD []) v=true<->(rdTop v).2.2=0/\(rdTop v).1=m:=by
 unfold valEq;rw [Bool.and_eq_true,ax,ax];constructor
 ·rintro⟨h1,h2⟩;have hp:m.put=some v:=by
   cases hm:m.put with
   |none=>rw [hm] at h1;simp at h1;subst h1;simp at h2
   |some w=>rw [hm] at h1;simp at h1;rw [h1]
  have hw:m.wr=(v,0):=by
   unfold Nd.wr;rw [hp];dsimp only;rw [if_neg z2_,if_neg z2_]
  have:=nS (x:=m) (by rw [hw]);rw [hw] at this;dsimp only at this;rw [this];exact⟨U,U⟩
 ·rintro⟨h1,h2⟩;have hp:=pQ h1;rw [h2] at hp;have hn:=put_ne hp;refine⟨by rw [hp];rfl,?_⟩;have:=List.length_pos_iff.2 hn;omega
theorem rA {c t:Int}{b:Txt}:(Nd.mk c t false b []).rk<=1:=by simp [Nd.rk,Nd.rkL]
theorem px {n:Nd}{l m:Int}(h:isSeqB n l m=true) (hp:n.put.isSome=true):n=.mk 0 16 true [] n.kids/\l<=n.kids.length/\(n.kids.length:Int)<=m:=by
 simp only [isSeqB,Bool.and_eq_true,ax] at h;obtain⟨⟨⟨⟨c1,c2⟩,c3⟩,c4⟩,c5⟩:=h;have hb:=(rC hp).1 c3;refine⟨?_,c4,c5⟩;obtain⟨c,t,k,b,ks⟩:=n;simp only [nd1,nd2,nd3,nd4,nd5] at *;subst c1 c2 c3 hb;rfl
theorem mr {n:Nd}{t:Int}(h:isB n t=true) (hm:mayB 0 t true=false):n=.mk 0 t false n.bytes []/\valB t n.bytes=true:=by
 have h1:=jr h hm;simp only [isB,Bool.and_eq_true,ax] at h;obtain⟨⟨c1,c2⟩,_⟩:=h;obtain⟨c,t',k,b,ks⟩:=n;simp only [nd1,nd2,nd3,nd4,nd5] at *;obtain⟨e1,e2,e3⟩:=h1;subst c1 c2 e1 e2;exact⟨U,e3⟩
theorem kd_zero {n:Nd}{i:Nat}(h:n.kids.length<=i):kd n i=ndZ0:=by
 unfold kd;rw [bi,cv h];rfl
theorem qU {n:Nd}(hp:n.put.isSome=true):basicB n=true<->n=basN (decide (0<(n.kids.length:Int))) (pathR n):=by
 constructor
 ·intro h;unfold basicB at h;simp only [Bool.and_eq_true,Bool.or_eq_true,Bool.not_eq_true',decide_eq_false_iff_not] at h;obtain⟨⟨h1,h2⟩,h3⟩:=h;obtain⟨e,l0,l2⟩:=px h1 hp;have ks:n.kids=basK (decide (0<(n.kids.length:Int))) (pathR n):=by
   unfold basK;by_cases hk:0<(n.kids.length:Int)
   ·rw [if_pos (aj hk)];have hb:basicK n=true:=h2.resolve_left λq=>q hk;unfold basicK at hb;rw [Bool.and_eq_true,ax] at hb;obtain⟨hb1,hb2⟩:=hb;obtain⟨q1,q2⟩:=mr hb1 bT;have ql:=bool_len q2;have q3:kd n 0=trueN:=by
     rw [q1];unfold trueN
     match hbs:(kd n 0).bytes,ql with
     |[b],_ =>
      rw [hbs] at hb2;have:b=255:=by
       apply UInt8.toNat_inj.1;simp at hb2;exact_mod_cast hb2
      rw [this]
    by_cases h2l:(n.kids.length:Int)=2
    ·have hI:basicI n=true:=h3.resolve_left λq=>q h2l;unfold basicI at hI;simp only [Bool.and_eq_true,ax] at hI;obtain⟨⟨⟨i1,i2⟩,i3⟩,i4⟩:=hI;have hpt:pathR n=(kd n 1).intV:=by unfold pathR;rw [if_pos ⟨i1,i3,i4⟩]
     rw [hpt,if_pos ⟨i3,i4⟩];have e1:=int_there i1 i2;unfold kd at q3 e1
     match hks:n.kids,h2l with
     |[a,b],_ =>
      rw [hks] at q3 e1;simp at q3 e1;rw [q3];unfold kd;rw [hks];simp only [List.getD_cons_succ,List.getD_cons_zero];rw [<- show b=intN b.intV from e1]
    ·have hl1:n.kids.length=1:=by omega
     have hpt:pathR n=-1:=by unfold pathR;rw [kd_zero z2_,if_neg bT]
     rw [hpt,if_neg z2_];unfold kd at q3
     match hks:n.kids,hl1 with
     |[a],_=>rw [hks] at q3;simp at q3;rw [q3]
   ·rw [if_neg (by simpa using hk)];exact List.length_eq_zero_iff.1 z2_
  unfold basN;rw [<- ks];exact e
 ·intro h;generalize hc:decide (0<(n.kids.length:Int))=ca at h;have hk:n.kids=basK ca (pathR n):=by
   have:=congrArg Nd.kids h;exact this
  have hcls:n.cls=0/\n.tag=16/\n.cons=true:=by rw [h];exact⟨U,U,U⟩
  have hlen:n.kids.length<=2:=by rw [hk];unfold basK;(repeat' split)<;>simp
  unfold basicB;have hs:isSeqB n 0 2=true:=by
   unfold isSeqB;rw [hcls.1,hcls.2.1,hcls.2.2];simp;omega
  rw [hs,hc];cases ca with
  |false =>
   have:n.kids.length=0:=by rw [hk];rfl
   simp [this]
  |true =>
   have k0:kd n 0=trueN:=by unfold kd;rw [hk];rfl
   have hb:basicK n=true:=by unfold basicK;rw [k0];decide
   rw [hb];by_cases hp2:0<=pathR n/\pathR n<=255
   ·have hI:basicI n=true:=by
     unfold pathR at hp2;split at hp2
     ·rename_i hq;unfold basicI;have k1:kd n 1=intN (pathR n):=by
       have hp3:0<=pathR n/\pathR n<=255:=by unfold pathR;rw [if_pos hq];exact⟨hq.2.1,hq.2.2⟩
       unfold kd;rw [hk];unfold basK;rw [if_pos U,if_pos hp3];rfl
      have kt:(kd n 1).tag=2:=by rw [k1];rfl
      rw [hq.1,kt,aj hq.2.1,aj hq.2.2];rfl
     ·omega
    rw [hI];simp
   ·have:n.kids.length=1:=by rw [hk];unfold basK;rw [if_pos U,if_neg hp2];rfl
    simp [this]
theorem usage2:∀ u:Fin 8,∀ b:Fin 256,bitsB [UInt8.ofNat u.1,UInt8.ofNat b.1]=true->bits .and .u8 ((b.1:Int) / 2 ^ u.1) 1≠0->ubO (usO [UInt8.ofNat u.1,UInt8.ofNat b.1] 9)=[UInt8.ofNat u.1,UInt8.ofNat b.1]:=by decide +kernel
theorem usage3:∀ b:Fin 256,ubO (usO [7,UInt8.ofNat b.1,128] 9)=[7,UInt8.ofNat b.1,128]:=by decide +kernel
theorem usageU:∀ n:Fin 512,(ubO n.1).length=1\/(bitsB (ubO n.1)=true/\2<=(ubO n.1).length/\(ubO n.1).length<=3/\bits .and .u8 ((((ubO n.1).getD ((ubO n.1).length-1) 0).toNat:Int) / 2 ^ ((ubO n.1).getD 0 0).toNat) 1≠0/\¬ ((ubO n.1).length=3/\((ubO n.1).getD 0 0).toNat<7)):=by decide +kernel
section
variable {P:Program} [Tb P] {F:Fd}{n:PostD}{x:Nat->PostD}{a:LO}{o:LQ}{ops:Array Oper}{rest:LR}{d d2 k e T T2:Nat}{ty ty2:TypeId}{pos pos2:String}{af af2:Array Edge}{xo yo zo:Operand}{l:LB}{i q:Int}{kk:IntKind}
theorem Rwl (m:Nat) (hx:evA a xo=some (.row k)) (hk:lkO o k=some (.row e (.bs l))) (hy:evA a yo=some (.d (.v (.int kk i)))) (hi:i=(m:Int)) (hm:m<l.length) (hT:slT P T=some (e,1)) (hT2:aggT P T2=some none) (hd:Nat.blt d F.m=true) (hd2:Nat.blt d2 F.m=true)
 (c:JLD P F ops n x rest ((d2,.d (.v (.int .u8 ((l.getD m 0).toNat:Int))))::(d,.any)::a) o):JLD P F ops n x (⟨some d,.indexAddr T xo yo,ty,pos,af,none⟩::⟨some d2,.load T2 (.tmp d),ty2,pos2,af2,none⟩::rest) a o:=.mk λρ h S L cz=>by
 obtain⟨v,h1,h2⟩:=cE cz hx;cases h2;obtain⟨y,L',hD,⟨xs,sz,rfl,hR,hn⟩,hr⟩:=cz.o.get hk;obtain⟨rfl,hlen,hc⟩:=hR;have hxs:=hc.u8;refine JL.rowsm hD.mem z2_ (λg hg=>?_);rw [hg] at h1 hD;refine ah (RunV.index_at hT h1 (dv cz hy) hi z2_) hd ?_;have c1:=eI (u:=.any) (v:=.pointer (some ⟨g,m,none⟩)) cz trivial d;refine ah (v:=.int .u8 ((l.getD m 0).toNat:Int)) (RunV.rowload (g:=g) (i:=m) hT2 (by simp [ev,look]) hD.mem (by rw [hxs];simp [u8s,hm])) hd2 ?_;exact c.k ρ h _ L (eI c1 (jy.2 U) d2)
theorem Rws (m:Nat) (hx:evA a xo=some (.row k)) (hk:lkO o k=some (.row e (.bs l))) (hy:evA a yo=some (.d (.v (.int kk i)))) (hz:evA a zo=some (.d (.v (.int .u8 q)))) (hzn:zo≠.tmp d) (hi:i=(m:Int)) (hm:m<l.length) (hq:0<=q/\q<=255) (hT:slT P T=some (e,1)) (hT2:aggT P T2=some none) (hd:Nat.blt d F.m=true)
 (c:JLD P F ops n x rest ((d,.any)::a) ((k,.row e (.bs (l.set m (UInt8.ofNat q.toNat))))::delO o k)):JLD P F ops n x (⟨some d,.indexAddr T xo yo,ty,pos,af,none⟩::⟨none,.store T2 (.tmp d) zo,ty2,pos2,af2,none⟩::rest) a o:=.mk λρ h S L cz=>by
 obtain⟨v,h1,h2⟩:=cE cz hx;cases h2;obtain⟨y,L',hD,⟨xs,sz,rfl,hR,hn⟩,hr⟩:=cz.o.get hk;obtain⟨rfl,hlen,hc⟩:=hR;have hxs:=hc.u8;refine JL.rowsm hD.mem z2_ (λg hg=>?_);rw [hg] at h1 hD;refine ah (RunV.index_at hT h1 (dv cz hy) hi z2_) hd ?_;have c1:=eI (u:=.any) (v:=.pointer (some ⟨g,m,none⟩)) cz trivial d;have hz1:=dv cz hz;have hz2:ev ((d,.pointer (some ⟨g,m,none⟩))::S) zo=some (.int .u8 q):=by
  cases zo with
  |tmp t =>
   have hne:Nat.beq d t=false:=by
    cases hb:Nat.beq d t with
    |false=>rfl
    |true=>exact absurd (by rw [aq hb]) hzn
   simpa [ev,look,hne] using hz1
  |_=>exact hz1
 refine JL.storeRow (g:=g) (i:=m) hT2 (by simp [ev,look]) hz2 U hD (by rw [hxs,gZ];omega) ?_;have e1:xs.set m (.int .u8 q)=u8s (l.set m (UInt8.ofNat q.toNat)):=by
  rw [hxs,<- nB];congr 2;simp only [UInt8.toNat_ofNat'];omega
 rw [e1];exact c.k ρ h _ _ ⟨c1.t,c1.s,_,L',U,⟨_,1,by rw [hg],⟨U,by rw [List.length_set];exact hlen,bm⟩,hn⟩,hr⟩
end
theorem rbit_d (n i:Int) (h0:0<=n) (h1:0<=i) (h2:i<=60):FnD prog 304 [.i n,.i i] (.b (bitI n i.toNat)):=by
 have hp:(0:Int)<2 ^ i.toNat:=Int.pow_pos bT;have hq:0<=n / 2 ^ i.toNat:=Int.ediv_nonneg h0 z2_;unfold bitI;refine aE func304 U ntmps304 U (λe=>?_);refine W ?_;refine bx (St1.shr_ U U ⟨h1,show _<=(64:Int) by omega⟩ U U) ?_;refine W ?_;exact Rt U U U
instance:Cn prog 304 (type_of% @rbit_d):=⟨@rbit_d⟩
theorem j9 (n:Int):∀ g,(ubGo n g).1.length=(g+7) / 8/\(ubGo n g).2<=g
 |0=>⟨U,aL _⟩
 |g+1=>by
  have ih:=j9 n g;unfold ubGo;dsimp only;split<;>split<;>simp only [List.length_set,aU,aC,aG]<;>omega
def ubA (n:Int) (g:Nat):Txt:=if g % 8=0 then(ubGo n g).1++[0] else(ubGo n g).1
theorem ubA_len (n:Int) (g:Nat):(ubA n g).length=g / 8+1:=by
 have ih:=j9 n g;unfold ubA;split<;>(try simp only [aU,aC,aG])<;>omega
theorem ubGo_t {n:Int}{g:Nat}(h:bitI n g=true):ubGo n (g+1)=((ubA n g).set (g / 8) ((ubA n g).getD (g / 8) 0+UInt8.ofNat (128 / 2 ^ (g % 8))),g+1):=by
 conv=>lhs;unfold ubGo
 dsimp only;rw [if_pos h];rfl
theorem ubGo_f {n:Int}{g:Nat}(h:bitI n g=false):ubGo n (g+1)=(ubA n g,(ubGo n g).2):=by
 conv=>lhs;unfold ubGo
 dsimp only;rw [if_neg (by rw [h];simp)];rfl
theorem mS (x:Xt) (h1:x.oid.length<=1000000) (h2:x.val.length<=1000000):FnD prog 281 [.st (Xt.enc x)] (.tup [.nd (extN x),.i (extE x)]):=by
 have:=dZ x.oid;have c0:=kK (s:=x.oid) h1;unfold extN extE;refine aE func281 U ntmps281 U (λe=>?_);refine W ?_;refine Bg U U (λg1=>?_) (λg1=>?_)
 ·refine W ?_;exact Rt U U (by simp_all [resD,nilD])
 refine W ?_;refine Ci U (λg2=>?_) (λg2=>?_)
 ·refine W ?_;exact Rt U U (by simp [resD,nilD];omega)
 have hb:((oidB x.oid).isSome&&decide (x.val.length<=2000))=true:=by
  rw [aj z2_,Bool.and_true];simpa using g1
 rw [if_pos hb,if_pos hb];refine W ?_;refine Ci U (λg3=>?_) (λg3=>?_)
 ·rw [if_pos g3];refine W ?_;refine Pl 3 U ?_;refine W ?_;exact Rt U U U
 ·rw [g3];refine W ?_;exact Rt U U U
theorem gL (s:Txt) (c:Bool) (m:Nd) (hz:m.sz<=10000000):FnD prog 302 [.s s,.b c,.nd m] (.st (Xt.enc ⟨s,c,m.put.getD []⟩)):=by
 exact aE func302 U ntmps302 U (λe=>Z)
instance:Cn prog 302 (type_of% @gL):=⟨@gL⟩
theorem tB (ca:Bool) (p:Int) (h0:-10<=p) (h1:p<=1000):FnD prog 296 [.b ca,.i p] (.st (Xt.enc ⟨oBasic,true,(basN ca p).put.getD []⟩)):=by
 have c0:=kP p z2_ z2_;have c1:=(eO p z2_ z2_).2.2.1;refine aE func296 U ntmps296 U (λe=>?_);refine W ?_;refine Ci U (λg1=>?_) (λg1=>?_)
 ·subst g1;refine W ?_;refine Pl 1 U ?_;refine W ?_;refine Ap0 kN U U U U U U (by simp) U U ?_;refine W ?_;refine Bg U U (λg2=>?_) (λg2=>?_)
  ·refine W ?_;refine Ci U (λg3=>?_) (λg3=>?_)
   ·have e1:basN true p=.mk 0 16 true [] [.mk 0 1 false [255] [],.mk 0 2 false (intB p) []]:=by unfold basN basK;rw [if_pos U,if_pos ⟨g2,g3⟩];rfl
    rw [e1];have c2:=gL oBasic true (.mk 0 16 true [] [.mk 0 1 false [255] [],.mk 0 2 false (intB p) []]) (by simp only [Nd.szL,Nd.sz,aG,aC];omega);refine W ?_;exact Rt U U U
   ·have e1:basN true p=.mk 0 16 true [] [.mk 0 1 false [255] []]:=by unfold basN basK;rw [if_pos U,if_neg z2_];rfl
    rw [e1];refine W ?_;exact Rt U U U
  ·have e1:basN true p=.mk 0 16 true [] [.mk 0 1 false [255] []]:=by unfold basN basK;rw [if_pos U,if_neg z2_];rfl
   rw [e1];refine W ?_;exact Rt U U U
 ·subst g1;have e1:basN false p=.mk 0 16 true [] []:=rfl;rw [e1];refine W ?_;exact Rt U U U
instance:Cn prog 296 (type_of% @tB):=⟨@tB⟩
theorem rski_d (b:Txt) (hb:b.length<=1000000):FnD prog 300 [.bs b] (.tup [.st (Xt.enc (if skiOk b then⟨oSki,false,(skiN b).put.getD []⟩ else⟨[],false,[]⟩)),.i (if skiOk b then 0 else 62)]):=by
 have c2:=gL oSki false (.mk 0 4 false b []) (by simp only [Nd.szL,Nd.sz];omega);refine aE func300 U ntmps300 U (λe=>?_);refine W ?_;refine Bg U U (λg1=>?_) (λg1=>?_)
 ·have e1:skiOk b=false:=by unfold skiOk;rw [au z2_];rfl
  rw [e1];refine W ?_;exact Rt U U U
 refine W ?_;refine Ci U (λg2=>?_) (λg2=>?_)
 ·have e1:skiOk b=false:=by unfold skiOk;rw [au (p:=(b.length:Int)<=64) z2_,Bool.and_false]
  rw [e1];refine W ?_;exact Rt U U U
 have e1:skiOk b=true:=by unfold skiOk;rw [aj (p:=(b.length:Int)<=64) z2_,aj z2_];rfl
 rw [e1];refine W ?_;exact Rt U U U
instance:Cn prog 300 (type_of% @rski_d):=⟨@rski_d⟩
section
variable {P:Program} [Tb P] {F:Fd}{a:LO}{o:LQ}{ops:Array Oper}{d:Nat}{ty T yt:TypeId}{pos:String}{af:Array Edge}{g:Option (Nat×Bool)}{xo yo:Operand}{p q:Int}{k:IntKind}
theorem St1.cvB {src dst:TypeId}{kk:IntKind}(hx:evA a xo=some (.d (.v (.int kk p)))) (hc:convI P src dst=some .u8) (h0:0<=p/\p<=255) (hg:gdB ops a g=some true) (hd:Nat.blt d F.m=true) :
 St1 P F ops a o ⟨some d,.convert src dst xo,ty,pos,af,g⟩ d (.d (.v (.int .u8 p))):=.run hg hd λρ h S L cz=>⟨_,by
  have:=cL (f:=F.fr P) (h:=h) (L:=L) (ty:=ty) hc (dv cz hx);rwa [lI p h0.1 h0.2] at this,cj (h:=h)⟩
theorem St1.addB (hx:evA a xo=some (.d (.v (.int .u8 p)))) (hy:evA a yo=some (.d (.v (.int .u8 q)))) (hg:gdB ops a g=some true) (hd:Nat.blt d F.m=true) :
 St1 P F ops a o ⟨some d,.binOp .add T xo yo yt,ty,pos,af,g⟩ d (.d (.v (.int .u8 ((p+q) % 256)))):=.bin hx hy (λS h L h1 h2=>by
  have:=RunV.add (f:=F.fr P) (h:=h) (L:=L) (ty:=ty) (T:=T) (yt:=yt) h1 h2;rwa [IntKind.wrap_u8] at this) hg hd
end
theorem u8_add (b:UInt8) (m:Nat) (hm:m<=128):UInt8.ofNat (((b.toNat:Int)+(m:Int)) % 256).toNat=b+UInt8.ofNat m:=by
 apply UInt8.toNat_inj.1;have hb:=UInt8.toNat_lt b;rw [UInt8.toNat_add,UInt8.toNat_ofNat',UInt8.toNat_ofNat'];omega
theorem pz (n:Int) (h0:0<=n):FnD prog 303 [.i n] (.bs (ubO n)):=by
 refine aE func303 U ntmps303 U (λe=>?_);refine W ?_;refine Rn kB 3 5 U U ?_;refine Lp (γ:=Nat) (λg=>g<=9) (λg=>10-g) (λg=>[(0,.d (.i n)),(3,.row 0),(4,.d (.i (((ubGo n g).2:Nat):Int))),(5,.d (.i (g:Int)))]) (λg=>[(0,.row 5 (.bs (ubGo n g).1))]) 0 z2_ ⟨U,U,U,U,trivial⟩ ⟨U,trivial⟩ ?_;intro g hg;have hbl:=(j9 n g).1;have hal:=ubA_len n g;refine W ?_;refine Ci U (λh1=>?_) (λh1=>?_)
 ·refine W ?_;refine Jm (γ:=Unit) (λ_=>[(0,.d (.i n)),(3,.row 0),(4,.d (.i (((ubGo n g).2:Nat):Int))),(5,.d (.i (g:Int)))]) (λ_=>[(0,.row 5 (.bs (ubA n g)))]) (λ_=>True) ?_ ?_
  ·refine Ci U (λh2=>?_) (λh2=>?_)
   ·have eA:ubA n g=(ubGo n g).1++[0]:=if_pos z2_;rw [eA];refine W ?_;exact⟨(),trivial,⟨⟨_,U,aZ⟩,⟨_,U,aZ⟩,⟨_,U,aZ⟩,⟨_,U,aZ⟩,trivial⟩,⟨U,trivial⟩⟩
   ·have eA:ubA n g=(ubGo n g).1:=if_neg z2_;rw [eA];refine W ?_;exact⟨(),trivial,⟨⟨_,U,aZ⟩,⟨_,U,aZ⟩,⟨_,U,aZ⟩,⟨_,U,aZ⟩,trivial⟩,⟨U,trivial⟩⟩
  rintro _ _;show JD _ _ _ _ _ [(0,.d (.i n)),(3,.row 0),(4,.d (.i (((ubGo n g).2:Nat):Int))),(5,.d (.i (g:Int)))] [(0,.row 5 (.bs (ubA n g)))];have hbt:=rbit_d n g h0 z2_ z2_;rw [Int.toNat_natCast] at hbt;refine W ?_;refine Ci U (λh3=>?_) (λh3=>?_)
  ·refine W ?_;refine Lp (γ:=Nat) (λk=>k<=g % 8) (λk=>9-k) (λk=>[(3,.row 0),(5,.d (.i (g:Int))),(0,.d (.i n)),(6,.d (.i ((128 / 2 ^ k:Nat):Int))),(7,.d (.i (k:Int)))]) (λ_=>[(0,.row 5 (.bs (ubA n g)))]) 0 z2_ ⟨U,U,U,U,U,trivial⟩ ⟨U,trivial⟩ ?_;intro k hk;show JD _ _ _ _ _ [(3,.row 0),(5,.d (.i (g:Int))),(0,.d (.i n)),(6,.d (.i ((128 / 2 ^ k:Nat):Int))),(7,.d (.i (k:Int)))] [(0,.row 5 (.bs (ubA n g)))];have hp2:128 / 2 ^ k<=128:=Nat.div_le_self ..;have e6:((128 / 2 ^ k:Nat):Int) / 2=((128 / 2 ^ (k+1):Nat):Int):=by
    rw [Nat.pow_succ,<- Nat.div_div_eq_div_mul];rfl
   have eQ:k=g % 8->∀ Q,128 / 2 ^ k=Q->bitI n g=true->ubGo n (g+1)=((ubA n g).set (g / 8) ((ubA n g).getD (g / 8) 0+UInt8.ofNat Q),g+1):=λe Q h hb=>by
    rw [<- h,e];exact ubGo_t hb
   generalize hQ:128 / 2 ^ k=Q at hp2 e6 eQ |-
   refine W ?_;refine Ci U (λh4=>?_) (λh4=>?_)
   ·refine W ?_;rw [e6];exact⟨k+1,by omega,by omega,⟨U,U,U,U,U,trivial⟩,⟨U,trivial⟩⟩
   ·have ek:k=g % 8:=by omega
    refine W ?_;refine Rwl (g / 8) U U U z2_ z2_ cP cP U U ?_;refine W ?_;refine bx (St1.cvB U (by decide +kernel) ⟨by omega,by omega⟩ U U) ?_;refine bx (St1.addB U U U U) ?_;refine Rws (g / 8) U U U U (λh=>by injection h with h;exact absurd h bT) z2_ z2_ ⟨by omega,by omega⟩ cP cP U ?_;rw [u8_add _ _ hp2];refine W ?_;have eg:=eQ ek Q U h3;refine⟨g+1,by omega,by omega,?_,?_⟩
    ·rw [eg];exact⟨U,U,U,U,trivial⟩
    ·rw [eg];exact⟨U,trivial⟩
  ·refine W ?_;have eg:=ubGo_f h3;refine⟨g+1,by omega,by omega,?_,?_⟩
   ·rw [eg];exact⟨U,U,U,U,trivial⟩
   ·rw [eg];exact⟨U,trivial⟩
 ·have e9:g=9:=by omega
  subst e9;have hL9:=(j9 n 9).2;have eU:ubO n=UInt8.ofNat (8*(((ubGo n 9).2+7) / 8)-(ubGo n 9).2)::(ubGo n 9).1.take (((ubGo n 9).2+7) / 8):=rfl;rw [eU];clear eU hal h1 hg;generalize (ubGo n 9).1=B at *;generalize (ubGo n 9).2=L at *;obtain rfl|rfl|rfl|rfl|rfl|rfl|rfl|rfl|rfl|rfl:L=0\/L=1\/L=2\/L=3\/L=4\/L=5\/L=6\/L=7\/L=8\/L=9:=by omega
  all_goals
   refine W ?_;refine bx (St1.mul U U bT U U) ?_;refine W ?_;refine bx (St1.cvB U (by decide +kernel) bT U U) ?_;refine W ?_;refine Pl 0 U ?_;refine bx (St1.toB (Int.toNat _) U U U U (Int.toNat_of_nonneg bT).symm (by simp only [hbl];decide) U U) ?_;refine Ap kB U U U U U U (by simp only [aC,aG,bz];omega) U U U U ?_;refine W ?_;exact Rt U U U
instance:Cn prog 303 (type_of% @pz):=⟨@pz⟩
theorem ubO_len (n:Int):(ubO n).length<=3:=by
 have:=(j9 n 9).1;unfold ubO;simp only [aC,bz];omega
def usgX (n:Int):Xt:=if((ubO n).length:Int)=1 then⟨[],false,[]⟩ else⟨oUsage,true,(Nd.mk 0 3 false (ubO n) []).put.getD []⟩
theorem nL (n:Int) (h0:0<=n):FnD prog 297 [.i n] (.st (Xt.enc (usgX n))):=by
 have hl:=ubO_len n;unfold usgX;refine aE func297 U ntmps297 U (λe=>?_);refine W ?_;refine Ci U (λh1=>?_) (λh1=>?_)
 ·rw [if_pos h1];refine W ?_;exact Rt U U U
 ·rw [if_neg h1];refine W ?_;exact Rt U U U
instance:Cn prog 297 (type_of% @nL):=⟨@nL⟩
def useX (c:Bool) (l:List Txt):Xt:=if useOk l then⟨oUses,c,(useN l).put.getD []⟩ else⟨[],false,[]⟩
theorem ruses_d (c:Bool) (l:List Txt) (hl:l.length<=40) (hB:∀ s∈l,s.length<=1000000) (hz:(useN l).sz<=10000000):FnD prog 299 [.b c,.sl 1 strE l] (.tup [.st (Xt.enc (useX c l)),.i (if useOk l then 0 else 62)]):=by
 have bad:useOk l=false->resD [.st (Xt.enc ⟨[],false,[]⟩),.i 62]=.tup [.st (Xt.enc (useX c l)),.i (if useOk l then 0 else 62)]:=λh=>by simp [useX,h,resD]
 refine aE func299 U ntmps299 U (λe=>?_);refine W ?_;refine Rn kN 6 35 U U ?_;refine Lp (γ:=Nat) (λg=>g<=l.length/\g<=32/\(l.take g).all (λs=>(oidB s).isSome)=true) (λg=>50-g) (λg=>[(0,.d (.b c)),(1,.d (.sl 1 strE l)),(4,.own 0 0),(6,.row 1),(7,.d (.i (g:Int)))])
  (λg=>[(1,.row 35 (.nds ((l.take g).map oiN))),(0,.var 173 [.d (.s []),.d (.b false),.d nilV])]) 0 ⟨by omega,by omega,U⟩ ⟨U,U,U,U,U,trivial⟩ ⟨U,U,trivial⟩ ?_
 rintro g ⟨hg,hg32,hall⟩;have hml:((l.take g).map oiN).length<=40:=by rw [aD];have:=List.length_take_le' g l;omega
 refine W ?_;refine Ci U (λh1=>?_) (λh1=>?_)
 ·have hlt:g<l.length:=by omega
  have hget:l.getD g default=l[g]:=bG hlt;have b1:=hB _ (aF hlt);rw [<- hget] at b1;have c0:=lZ (l.getD g default) z2_;have c1:=kK (s:=l.getD g default) b1;refine W ?_;refine Bg U U (λh2=>?_) (λh2=>?_)
  ·refine W ?_;refine Rt U U (bad ?_);have:l.all (λs=>(oidB s).isSome)=false:=by
    rw [List.all_eq_false];exact⟨l[g],aF hlt,by rw [<- hget];simpa using h2⟩
   unfold useOk;rw [this];rfl
  refine W ?_;refine Ci U (λh3=>?_) (λh3=>?_)
  ·refine W ?_;refine Rt U U (bad ?_);unfold useOk;rw [au (p:=(l.length:Int)<=32) z2_];simp
  refine W ?_;have htk:(l.take (g+1)).map oiN=(l.take g).map oiN++[oiN (l.getD g default)]:=by rw [am hlt,List.map_append,hget];rfl
  have hta:(l.take (g+1)).all (λs=>(oidB s).isSome)=true:=by
   rw [am hlt,List.all_append,hall,<- hget];simpa using h2
  refine⟨g+1,by omega,⟨by omega,by omega,hta⟩,⟨U,U,U,U,U,trivial⟩,?_⟩;show WkO [(1,.row 35 (.nds ((l.take (g+1)).map oiN))),(0,.var 173 [.d (.s []),.d (.b false),.d nilV])] _;rw [htk];exact⟨U,U,trivial⟩
 ·have hge:g=l.length:=by omega
  subst hge;rw [List.take_length] at hall;rw [List.take_length];have c2:=mQ (l:=l.map oiN);have c3:=gL oUses c (.mk 0 16 true [] (l.map oiN)) hz;refine Pb 1 U ?_;refine W ?_;refine Bg U U (λh4=>?_) (λh4=>?_)
  ·refine W ?_;refine Rt U U (bad ?_);rw [aD] at h4;unfold useOk;rw [au (p:=0<(l.length:Int)) z2_];simp
  rw [aD] at h4;refine W ?_;refine Ci U (λh5=>?_) (λh5=>?_)
  ·refine W ?_;refine Rt U U (bad ?_);have h5':2000<(((useN l).put.getD []).length:Int):=h5;unfold useOk;rw [au (p:=(((useN l).put.getD []).length:Int)<=2000) z2_];simp
  refine W ?_;refine Rt U U ?_;have h5':¬ 2000<(((useN l).put.getD []).length:Int):=h5;have ok:useOk l=true:=by
   unfold useOk;rw [hall,aj (p:=(l.length:Int)<=32) z2_,aj (p:=0<(l.length:Int)) z2_,aj (p:=(((useN l).put.getD []).length:Int)<=2000) z2_];rfl
  simp only [useX,ok,if_true];rfl
theorem usO_lt (b:Txt):∀ i,usO b i<2 ^ i
 |0=>by simp [usO]
 |i+1=>by
  have ih:=usO_lt b i;have hq:qB b i<=1:=by unfold qB;split<;>omega
  have:2 ^ i*qB b i<=2 ^ i*1:=Nat.mul_le_mul_left _ hq;simp only [usO,Nat.pow_succ];omega
theorem lM {n:Nd}(hp:n.put.isSome=true):usageB n=true<->n=usaN n/\¬ ((ubO (usO n.bytes 9)).length:Int)=1:=by
 constructor
 ·intro h;unfold usageB at h;simp only [Bool.and_eq_true,Bool.not_eq_true',ax,decide_eq_false_iff_not,Bool.and_eq_false_iff] at h;obtain⟨⟨⟨⟨h1,h2⟩,h3⟩,h4⟩,h5⟩:=h;obtain⟨e,hv⟩:=mr h1 bT;have hb:bitsB n.bytes=true:=by unfold valB at hv;simpa using hv
  have key:ubO (usO n.bytes 9)=n.bytes:=by
   have hbb:=hb;unfold bitsB at hbb;rw [ax] at hbb;generalize n.bytes=bs at *
   match bs,h2,h3 with
   |[u,b],_,_ =>
    have hu:u.toNat<8:=by
     have:byteAt [u,b] 0=u.toNat:=rfl;omega
    have eu:UInt8.ofNat u.toNat=u:=UInt8.ofNat_toNat;have eb:UInt8.ofNat b.toNat=b:=UInt8.ofNat_toNat;have:=usage2 ⟨u.toNat,hu⟩ ⟨b.toNat,UInt8.toNat_lt b⟩;simp only [eu,eb] at this;exact this hb h4
   |[u,b,c],_,_ =>
    have b0:byteAt [u,b,c] 0=u.toNat:=rfl;have b2:byteAt [u,b,c] 2=c.toNat:=rfl;have e3:[u,b,c].length-1=2:=rfl;rw [b0,e3,b2] at hbb;have hu7:¬ (u.toNat:Int)<7:=by
     rcases h5 with h5|h5
     ·exact absurd U h5
     ·exact h5
    have hu:u.toNat=7:=by omega
    have h4':bits .and .u8 ((c.toNat:Int) / 2 ^ u.toNat) 1≠0:=h4;rw [hu] at h4' hbb;have hc:=UInt8.toNat_lt c;have hcm:c.toNat % 128=0:=by
     rcases hbb.2 with h|h
     ·omega
     ·exact h
    have hc1:c.toNat=0\/c.toNat=128:=by omega
    have hc2:c.toNat=128:=by
     rcases hc1 with h|h
     ·rw [h] at h4';exact absurd bT h4'
     ·exact h
    have eu:u=7:=UInt8.toNat_inj.1 hu;have ec:c=128:=UInt8.toNat_inj.1 hc2;subst eu ec;have eb:UInt8.ofNat b.toNat=b:=UInt8.ofNat_toNat;have:=usage3 ⟨b.toNat,UInt8.toNat_lt b⟩;simpa only [eb] using this
  refine⟨?_,by rw [key];omega⟩;unfold usaN;rw [key];exact e
 ·rintro⟨e,hl⟩;have hU:=usageU ⟨usO n.bytes 9,usO_lt n.bytes 9⟩;simp only at hU;have hb:n.bytes=ubO (usO n.bytes 9):=congrArg Nd.bytes e;rcases hU with hU|⟨q1,q2,q3,q4,q5⟩
  ·exact absurd z2_ hl
  rw [<- hb] at q1 q2 q3 q4 q5;unfold usageB isB;have c1:n.cls=0:=by rw [e];rfl
  have c2:n.tag=3:=by rw [e];rfl
  have e1:((n.bytes.length:Int)-1).toNat=n.bytes.length-1:=by omega
  rw [c1,c2,hp,e1,Int.toNat_natCast,aj (p:=2<=(n.bytes.length:Int)) z2_,aj (p:=(n.bytes.length:Int)<=3) z2_,au q4];simp only [bi] at q5 |-
  simp;omega
theorem oiN_of {s:Txt}(h:(oidB s).isSome=true):(oidOf (oiN s)).2=true:=by
 have h1:isB (oiN s) 6=true:=by
  unfold isB;rw [gQ h];rfl
 obtain⟨b,hb⟩:=Option.isSome_iff_exists.1 h;have h2:=oid_tr hb;unfold oidOf;rw [if_pos h1];show(oidT (oiN s).bytes).isSome=true;unfold oiN;simp only [nd4,hb,Option.getD_some];exact h2
theorem uses_iff {v:Txt}(hv:v.length<=2000):(useOk (useL (rdTop v).1)&&valEq ((useN (useL (rdTop v).1)).put.getD []) v)=true<->(rdTop v).2.2=0/\usesB (rdTop v).1=true:=by
 have hrk:(useN (useL (rdTop v).1)).rk<=32:=by
  have:∀ l:List Txt,Nd.rkL (l.map oiN)<=1:=λl=>by
   induction l with
   |nil=>simp [Nd.rkL]
   |cons s r ih=>simp only [List.map_cons,Nd.rkL];have:(oiN s).rk<=1:=rA;omega
  have:=this (useL (rdTop v).1);simp only [useN,Nd.rk];omega
 rw [Bool.and_eq_true,j8 hrk z2_];generalize hn:(rdTop v).1=n at *;constructor
 ·rintro⟨hok,c,e⟩;refine⟨c,?_⟩;unfold useOk at hok;simp only [Bool.and_eq_true,ax] at hok;obtain⟨⟨⟨o1,o2⟩,o3⟩,_⟩:=hok;have hk:n.kids=(useL n).map oiN:=congrArg Nd.kids e;unfold usesB;have hs:isSeqB n 1 32=true:=by
   unfold isSeqB;have c1:n.cls=0:=by rw [e];rfl
   have c2:n.tag=16:=by rw [e];rfl
   have c3:n.cons=true:=by rw [e];rfl
   rw [c1,c2,c3,hk,aD];simp;omega
  rw [hs,Bool.true_and,hk,List.all_map,List.all_eq_true];intro s hs;exact oiN_of (List.all_eq_true.1 o1 s hs)
 ·rintro⟨c,hu⟩;have hp:=pQ c;rw [hn] at hp;unfold usesB at hu;rw [Bool.and_eq_true] at hu;obtain⟨u1,u2⟩:=hu;obtain⟨e,l1,l2⟩:=px u1 (by rw [hp];rfl);have eL:useL n=n.kids.map λk=>(oidOf k).1:=by
   unfold useL;rw [aS z2_];exact List.map_congr_left λk hk=>(md (List.all_eq_true.1 u2 k hk)).2.1.symm
  have eN:useN (useL n)=n:=by
   unfold useN;rw [eL,List.map_map];have:n.kids.map (oiN∘λk=>(oidOf k).1)=n.kids:=by
    conv=>rhs;rw [<- List.map_id n.kids]
    exact List.map_congr_left λk hk=>(md (List.all_eq_true.1 u2 k hk)).1
   rw [this];exact e.symm
  refine⟨?_,c,eN.symm⟩;unfold useOk;have hl:(useL n).length=n.kids.length:=by rw [eL,aD]
  have ha:(useL n).all (λs=>(oidB s).isSome)=true:=by
   rw [eL,List.all_map,List.all_eq_true];exact λk hk=>(md (List.all_eq_true.1 u2 k hk)).2.2
  rw [ha,eN,hp,hl];simp;omega
theorem ski_iff {v:Txt}(hv:v.length<=2000):(skiOk (rdTop v).1.bytes&&valEq ((skiN (rdTop v).1.bytes).put.getD []) v)=true<->(rdTop v).2.2=0/\skiB (rdTop v).1=true:=by
 rw [Bool.and_eq_true,j8 (m:=skiN (rdTop v).1.bytes) (Nat.le_trans rA bT) z2_];generalize hn:(rdTop v).1=n at *;constructor
 ·rintro⟨hok,c,e⟩;have hp:=pQ c;rw [hn] at hp;refine⟨c,?_⟩;unfold skiOk at hok;simp only [Bool.and_eq_true,ax] at hok;unfold skiB isB;have c1:n.cls=0:=by rw [e];rfl
  have c2:n.tag=4:=by rw [e];rfl
  rw [c1,c2,hp];simp;omega
 ·rintro⟨c,hu⟩;unfold skiB at hu;simp only [Bool.and_eq_true,ax] at hu;obtain⟨⟨u1,u2⟩,u3⟩:=hu;have e:=(mr u1 bT).1;refine⟨?_,c,e⟩;unfold skiOk;simp;omega
theorem says_same (x:Xt) (hv:x.val.length<=2000):saysB x=tellB x:=by
 rw [Bool.eq_iff_iff];unfold saysB tellB;split
 ·have hr:∀ ca p,(basN ca p).rk<=32:=λca p=>by
   unfold basN basK
   (repeat' split)<;>simp [Nd.rk,Nd.rkL,trueN,intN]
  rw [j8 (hr _ _) z2_,Bool.and_eq_true,ax];constructor
  ·rintro⟨c,e⟩;exact⟨c,(qU (by rw [pQ c];rfl)).2 e⟩
  ·rintro⟨c,e⟩;exact⟨c,(qU (by rw [pQ c];rfl)).1 e⟩
 split
 ·rw [Bool.and_eq_true,ax];unfold usaV;split
  ·rename_i hl;constructor
   ·intro h;unfold valEq at h;simp only [Bool.and_eq_true,ax] at h;obtain⟨h1,h2⟩:=h;rw [<- h1] at h2;simp at h2
   ·rintro⟨c,h⟩;exact absurd hl ((lM (by rw [pQ c];rfl)).1 h).2
  ·rename_i hl;rw [j8 (m:=usaN (rdTop x.val).1) (Nat.le_trans rA bT) z2_];constructor
   ·rintro⟨c,e⟩;exact⟨c,(lM (by rw [pQ c];rfl)).2 ⟨e,hl⟩⟩
   ·rintro⟨c,h⟩;exact⟨c,((lM (by rw [pQ c];rfl)).1 h).1⟩
 split
 ·rw [uses_iff hv,Bool.and_eq_true,ax]
 split
 ·rw [ski_iff hv,Bool.and_eq_true,ax]
 exact Iff.rfl
theorem nN (x:Nd) (hz:x.sz<=10000000):FnD prog 294 [.nd x] (.tup [.i x.intV,.b x.intOk]):=.mk λh vs hT hd=>by
 obtain⟨v,rfl,h1⟩:=gB hd;obtain⟨cs,rfl,hR⟩:=dP.1 h1;exact(rintof_fn hR hz).d (fU (cj (h:=h)) ((dH (h:=h)).2 U))
instance:Cn prog 294 (type_of% @nN):=⟨@nN⟩
instance:Inhabited Fct:=⟨⟨false,false,0,false,0,[],[]⟩⟩
theorem szL1 (n:Nd):Nd.szL n.kids+1<=n.sz:=by cases n;simp only [Nd.kids,Nd.sz];omega
abbrev fctZ:D:=.st [.b false,.b false,.i 0,.b false,.i 0,.sl 1 strE [],.bs []]
theorem oiT_sz (b:Txt):(oiN ((oidT b).getD [])).sz<=b.length+1:=by
 cases h:oidT b with
 |none=>simp only [Option.getD_none,oiN,Nd.sz,Nd.szL,show(oidB []).getD []=[] by kernel_rfl,aG];omega
 |some s=>simp only [Option.getD_some,oiN,Nd.sz,Nd.szL,oid_rt h];omega
theorem useL_sz (n:Nd):(useN (useL n)).sz<=n.sz+41:=by
 have:∀ (l:LN),Nd.szL ((l.map λk=>(oidT k.bytes).getD []).map oiN)<=Nd.szL l+l.length:=λl=>by
  induction l with
  |nil=>simp [Nd.szL]
  |cons k r ih =>
   have h1:=oiT_sz k.bytes;have h2:=dQ k;simp only [List.map_cons,Nd.szL,aC];omega
 have h:=this (n.kids.take 40);have h2:=Nd.szL_take_le n.kids 40;have h3:=szL1 n;have h4:=List.length_take_le 40 n.kids;simp only [useN,useL,Nd.sz,aG];omega
theorem usO_step (b:Txt) (i:Nat):((usO b (i+1):Nat):Int)=(usO b i:Nat)+((2 ^ i:Nat):Int)*(qB b i:Nat):=by
 rw [usO,dT,Int.natCast_mul]
theorem rsays_e (x:Xt) (hv:x.val.length<=12000):FnE prog 289 [.st (Xt.enc x),fctZ] (λd=>∃ f:Fct,d=.tup [.st f.enc,.b (saysB x)]):=by
 have hsz:=i9 x.val;refine aE func289 U ntmps289 U (λe=>?_);refine W ?_;refine Jf (γ:=Fct×Xt) (λ_=>[(2,.own 0 0),(3,.own 1 0),(4,.own 2 0),(8,.own 5 0)])
  (λg=>[(0,.whl 173 (.st x.enc)),(1,.var 314 [.d (.b g.1.hasBasic),.d (.b g.1.ca),.d (.i g.1.path),.d (.b g.1.hasUsage),.d (.i g.1.usage),.d (.sl 1 strE g.1.uses),.d (.bs g.1.ski)]),(2,.var 314 [.d (.b false),.d (.b false),.d (.i 0),.d (.b false),.d (.i 0),.d nilV,.d nilV]),(5,.whl 173 (.st g.2.enc))])
  (λg=>saysB x=valEq g.2.val x.val) ?_ ?_
 ·refine Ci U (λh1=>?_) (λh1=>?_)
  ·have eS:∀ V,V=(basN (decide (0<((rdTop x.val).1.kids.length:Int))) (pathR (rdTop x.val).1)).put.getD []->saysB x=valEq V x.val:=λV h=>by
    unfold saysB;rw [if_pos (show x.oid=oBasic from h1),h]
   generalize (rdTop x.val).1=n at *;have ek:kdI n 1=kd n 1:=kdI_nat n 1;have ks:(kd n 1).sz<=n.sz:=qh n 1;have c1:=nN (kd n 1) z2_;rw [<- ek] at c1;refine W ?_;rw [ek];refine Bg U U (λh2=>?_) (λh2=>?_)
   ·refine W ?_;refine Bg U U (λh3=>?_) (λh3=>?_)
    ·refine W ?_;refine Ci U (λh4=>?_) (λh4=>?_)
     ·have ep:pathR n=(kd n 1).intV:=if_pos ⟨h2,h3,h4⟩;rw [ep] at eS;refine W ?_;exact⟨(⟨true,_,_,false,0,[],[]⟩,⟨oBasic,true,_⟩),eS _ U,⟨⟨_,U,aZ⟩,⟨_,U,aZ⟩,⟨_,U,aZ⟩,⟨_,U,aZ⟩,trivial⟩,⟨_,U,CvE.r⟩,⟨_,U,CvE.v ⟨CvA.q,aZ,aZ,aZ,aZ,aZ,aZ,trivial⟩⟩,⟨_,U,CvE.r⟩,⟨_,U,CvE.r⟩,trivial⟩
     ·have ep:pathR n=-1:=if_neg z2_;rw [ep] at eS;refine W ?_;exact⟨(⟨true,_,_,false,0,[],[]⟩,⟨oBasic,true,_⟩),eS _ U,⟨⟨_,U,aZ⟩,⟨_,U,aZ⟩,⟨_,U,aZ⟩,⟨_,U,aZ⟩,trivial⟩,⟨_,U,CvE.r⟩,⟨_,U,CvE.v ⟨CvA.q,aZ,aZ,aZ,aZ,aZ,aZ,trivial⟩⟩,⟨_,U,CvE.r⟩,⟨_,U,CvE.r⟩,trivial⟩
    ·have ep:pathR n=-1:=if_neg z2_;rw [ep] at eS;refine W ?_;exact⟨(⟨true,_,_,false,0,[],[]⟩,⟨oBasic,true,_⟩),eS _ U,⟨⟨_,U,aZ⟩,⟨_,U,aZ⟩,⟨_,U,aZ⟩,⟨_,U,aZ⟩,trivial⟩,⟨_,U,CvE.r⟩,⟨_,U,CvE.v ⟨CvA.q,aZ,aZ,aZ,aZ,aZ,aZ,trivial⟩⟩,⟨_,U,CvE.r⟩,⟨_,U,CvE.r⟩,trivial⟩
   ·have ep:pathR n=-1:=if_neg (λh=>by rw [h.1] at h2;cases h2);rw [ep] at eS;refine W ?_;exact⟨(⟨true,_,_,false,0,[],[]⟩,⟨oBasic,true,_⟩),eS _ U,⟨⟨_,U,aZ⟩,⟨_,U,aZ⟩,⟨_,U,aZ⟩,⟨_,U,aZ⟩,trivial⟩,⟨_,U,CvE.r⟩,⟨_,U,CvE.v ⟨CvA.q,aZ,aZ,aZ,aZ,aZ,aZ,trivial⟩⟩,⟨_,U,CvE.r⟩,⟨_,U,CvE.r⟩,trivial⟩
  refine W ?_;refine Ci U (λh2=>?_) (λh2=>?_)
  ·have eS:saysB x=valEq (usgX (usO (rdTop x.val).1.bytes 9:Nat)).val x.val:=by
    unfold saysB;rw [if_neg (show ¬ x.oid=oBasic from h1),if_pos (show x.oid=oUsage from h2)];unfold usaV usgX usaN;split<;>rfl
   have kb:=dQ (rdTop x.val).1;generalize (rdTop x.val).1=n at *;refine W ?_;refine Lp (γ:=Nat) (λg=>g<=9) (λg=>10-g) (λg=>[(2,.own 0 0),(3,.own 1 0),(4,.own 2 0),(6,.own 3 0),(8,.own 5 0),(11,.d (.i ((2 ^ g:Nat):Int))),(12,.d (.i (g:Int)))])
    (λg=>[(0,.whl 173 (.st x.enc)),(1,.var 314 [.d (.b false),.d (.b false),.d (.i 0),.d (.v (.bool true)),.d (.i ((usO n.bytes g:Nat):Int)),.d (.sl 1 strE []),.d (.bs [])]),(2,.var 314 [.d (.b false),.d (.b false),.d (.i 0),.d (.b false),.d (.i 0),.d nilV,.d nilV]),(3,.whl 35 (.nd n)),(5,.whl 173 (.st [.s [],.b false,nilV]))]) 0 z2_ ⟨U,U,U,U,U,U,U,trivial⟩ ⟨U,U,U,U,U,trivial⟩ ?_
   intro g hg;show JD _ _ _ _ _ [(2,.own 0 0),(3,.own 1 0),(4,.own 2 0),(6,.own 3 0),(8,.own 5 0),(11,.d (.i ((2 ^ g:Nat):Int))),(12,.d (.i (g:Int)))] [(0,.whl 173 (.st x.enc)),(1,.var 314 [.d (.b false),.d (.b false),.d (.i 0),.d (.v (.bool true)),.d (.i ((usO n.bytes g:Nat):Int)),.d (.sl 1 strE []),.d (.bs [])]),(2,.var 314 [.d (.b false),.d (.b false),.d (.i 0),.d (.b false),.d (.i 0),.d nilV,.d nilV]),(3,.whl 35 (.nd n)),(5,.whl 173 (.st [.s [],.b false,nilV]))];have hT:2 ^ g<=512:=Nat.le_trans (Nat.pow_le_pow_right bT hg) bT;have hU:=usO_lt n.bytes g;have eU:=usO_step n.bytes g;have eT:((2 ^ g:Nat):Int)*2=((2 ^ (g+1):Nat):Int):=by rw [Nat.pow_succ,Int.natCast_mul];rfl
   refine W ?_;refine Ci U (λh3=>?_) (λh3=>?_)
   ·refine W ?_;refine Ci U (λh4=>?_) (λh4=>?_)
    ·have eq:qB n.bytes g=(n.bytes.getD (1+g / 8) 0).toNat / 2 ^ (7-g % 8) % 2:=if_pos z2_;have hB:=UInt8.toNat_lt (n.bytes.getD (1+g / 8) 0);refine W ?_;generalize (n.bytes.getD (1+g / 8) 0)=B8 at *;refine W ?_;refine Lp (γ:=Nat) (λk=>g % 8+k<=7) (λk=>9-k) (λk=>[(2,.own 0 0),(3,.own 1 0),(4,.own 2 0),(6,.own 3 0),(8,.own 5 0),(11,.d (.i ((2 ^ g:Nat):Int))),(12,.d (.i (g:Int))),(13,.d (.i ((B8.toNat / 2 ^ k:Nat):Int))),(14,.d (.i ((g:Int) % 8+k)))])
      (λk=>[(0,.whl 173 (.st x.enc)),(1,.var 314 [.d (.b false),.d (.b false),.d (.i 0),.d (.v (.bool true)),.d (.i ((usO n.bytes g:Nat):Int)),.d (.sl 1 strE []),.d (.bs [])]),(2,.var 314 [.d (.b false),.d (.b false),.d (.i 0),.d (.b false),.d (.i 0),.d nilV,.d nilV]),(3,.whl 35 (.nd n)),(5,.whl 173 (.st [.s [],.b false,nilV]))]) 0 z2_ ?_ ⟨U,U,U,U,U,trivial⟩ ?_
     ·show WkA [(2,.own 0 0),(3,.own 1 0),(4,.own 2 0),(6,.own 3 0),(8,.own 5 0),(11,.d (.i ((2 ^ g:Nat):Int))),(12,.d (.i (g:Int))),(13,.d (.i ((B8.toNat / 2 ^ 0:Nat):Int))),(14,.d (.i ((g:Int) % 8+(0:Nat))))] _;rw [Nat.pow_zero,Nat.div_one,show(g:Int) % 8+(0:Nat)=(g:Int) % 8 by omega];exact⟨U,U,U,U,U,U,U,U,U,trivial⟩
     intro k hk;show JD _ _ _ _ _ [(2,.own 0 0),(3,.own 1 0),(4,.own 2 0),(6,.own 3 0),(8,.own 5 0),(11,.d (.i ((2 ^ g:Nat):Int))),(12,.d (.i (g:Int))),(13,.d (.i ((B8.toNat / 2 ^ k:Nat):Int))),(14,.d (.i ((g:Int) % 8+k)))] [(0,.whl 173 (.st x.enc)),(1,.var 314 [.d (.b false),.d (.b false),.d (.i 0),.d (.v (.bool true)),.d (.i ((usO n.bytes g:Nat):Int)),.d (.sl 1 strE []),.d (.bs [])]),(2,.var 314 [.d (.b false),.d (.b false),.d (.i 0),.d (.b false),.d (.i 0),.d nilV,.d nilV]),(3,.whl 35 (.nd n)),(5,.whl 173 (.st [.s [],.b false,nilV]))];have hq0:B8.toNat / 2 ^ k<=255:=Nat.le_trans (Nat.div_le_self ..) z2_;have e6:((B8.toNat / 2 ^ k:Nat):Int) / 2=((B8.toNat / 2 ^ (k+1):Nat):Int):=by
      rw [Nat.pow_succ,<- Nat.div_div_eq_div_mul];rfl
     have eQ:k=7-g % 8->∀ Q,B8.toNat / 2 ^ k=Q->qB n.bytes g=Q % 2:=λe Q h=>by rw [eq,<- e,h]
     generalize hQ:B8.toNat / 2 ^ k=Q at hq0 e6 eQ |-
     refine W ?_;refine Ci U (λh5=>?_) (λh5=>?_)
     ·refine W ?_;rw [e6];refine⟨k+1,by omega,by omega,?_,⟨U,U,U,U,U,trivial⟩⟩;show WkA [(2,.own 0 0),(3,.own 1 0),(4,.own 2 0),(6,.own 3 0),(8,.own 5 0),(11,.d (.i ((2 ^ g:Nat):Int))),(12,.d (.i (g:Int))),(13,.d (.i ((B8.toNat / 2 ^ (k+1):Nat):Int))),(14,.d (.i ((g:Int) % 8+((k+1:Nat):Int))))] _;rw [show(g:Int) % 8+((k+1:Nat):Int)=(g:Int) % 8+k+1 by omega];exact⟨U,U,U,U,U,U,U,U,U,trivial⟩
     ·have q1:=eQ z2_ Q U;rw [q1] at eU;generalize hTT:2 ^ g=T at hT hU eU eT |-
      have em:(T:Int)*((Q:Int) % 2)=(T:Int)*((Q % 2:Nat):Int):=rfl;have hm:0<=(T:Int)*((Q:Int) % 2)/\(T:Int)*((Q:Int) % 2)<=512:=by
       rcases(show(Q:Int) % 2=0\/(Q:Int) % 2=1 by omega) with h|h<;>rw [h]<;>omega
      refine W ?_;refine bx (St1.mul U U z2_ U U) ?_;refine W ?_;refine bx (St1.mul U U z2_ U U) ?_;refine W ?_;rw [em,<- eU,eT];exact⟨g+1,by omega,by omega,⟨U,U,U,U,U,U,U,trivial⟩,⟨U,U,U,U,U,trivial⟩⟩
    ·have eq:qB n.bytes g=0:=if_neg z2_;rw [eq] at eU;generalize hTT:2 ^ g=T at hT hU eU eT |-
     refine W ?_;refine bx (St1.mul U U z2_ U U) ?_;refine W ?_;have eU2:((usO n.bytes (g+1):Nat):Int)=(usO n.bytes g:Nat):=by rw [eU];simp
     rw [<- eU2,eT];exact⟨g+1,by omega,by omega,⟨U,U,U,U,U,U,U,trivial⟩,⟨U,U,U,U,U,trivial⟩⟩
   ·have e9:g=9:=by omega
    subst e9;have c1:=nL (usO n.bytes 9:Nat) (Int.natCast_nonneg _);refine W ?_;exact⟨(⟨false,false,0,true,_,[],[]⟩,usgX (usO n.bytes 9:Nat)),eS,⟨⟨_,U,aZ⟩,⟨_,U,aZ⟩,⟨_,U,aZ⟩,⟨_,U,aZ⟩,trivial⟩,⟨_,U,CvE.r⟩,⟨_,U,CvE.v ⟨aZ,aZ,aZ,CvA.q,aZ,aZ,aZ,trivial⟩⟩,⟨_,U,CvE.r⟩,⟨_,U,CvE.r⟩,trivial⟩
  refine W ?_;refine Ci U (λh3=>?_) (λh3=>?_)
  ·have eS:saysB x=(useOk (useL (rdTop x.val).1)&&valEq ((useN (useL (rdTop x.val).1)).put.getD []) x.val):=by
    unfold saysB;rw [if_neg (show ¬ x.oid=oBasic from h1),if_neg (show ¬ x.oid=oUsage from h2),if_pos (show x.oid=oUses from h3)]
   have kz:=n6 (rdTop x.val).1;generalize (rdTop x.val).1=n at *;have cu:=ruses_d x.crit (useL n) (by unfold useL;rw [aD];exact List.length_take_le 40 n.kids) (λs hs=>by
    obtain⟨k,hk,rfl⟩:=List.mem_map.1 hs;have h1:=Nd.sz_le (List.mem_of_mem_take hk);have h2:=szL1 n;have ol:=oidT_len k.bytes;have kb:=dQ k;omega) (by have:=useL_sz n;omega)
   refine W ?_;refine Rv (kS 1 strE) 1 5 9 U U U U U U ?_;refine Lp (γ:=Nat) (λg=>g<=n.kids.length/\g<=40) (λg=>50-g) (λg=>[(2,.own 0 0),(3,.own 1 0),(4,.own 2 0),(6,.own 3 0),(8,.own 5 0),(15,.d (.i (g:Int)))])
    (λg=>[(0,.whl 173 (.st x.enc)),(1,.var 314 [.d (.b false),.d (.b false),.d (.i 0),.d (.b false),.d (.i 0),.row 6,.d (.bs [])]),(6,.row 9 (.sl 1 strE ((n.kids.take g).map λk=>(oidT k.bytes).getD []))),(2,.var 314 [.d (.b false),.d (.b false),.d (.i 0),.d (.b false),.d (.i 0),.d nilV,.d nilV]),(3,.whl 35 (.nd n)),(5,.whl 173 (.st [.s [],.b false,nilV]))]) 0 z2_ ⟨U,U,U,U,U,U,trivial⟩ ⟨U,U,U,U,U,U,trivial⟩ ?_
   rintro g ⟨hg,hg40⟩;show JD _ _ _ _ _ [(2,.own 0 0),(3,.own 1 0),(4,.own 2 0),(6,.own 3 0),(8,.own 5 0),(15,.d (.i (g:Int)))] [(0,.whl 173 (.st x.enc)),(1,.var 314 [.d (.b false),.d (.b false),.d (.i 0),.d (.b false),.d (.i 0),.row 6,.d (.bs [])]),(6,.row 9 (.sl 1 strE ((n.kids.take g).map λk=>(oidT k.bytes).getD []))),(2,.var 314 [.d (.b false),.d (.b false),.d (.i 0),.d (.b false),.d (.i 0),.d nilV,.d nilV]),(3,.whl 35 (.nd n)),(5,.whl 173 (.st [.s [],.b false,nilV]))];have hml:((n.kids.take g).map λk=>(oidT k.bytes).getD []).length<=40:=by rw [aD];have:=List.length_take_le g n.kids;omega
   repeat (refine JD.seq ?_)
   refine Jm (γ:=Bool) (λb=>[(2,.own 0 0),(3,.own 1 0),(4,.own 2 0),(6,.own 3 0),(8,.own 5 0),(15,.d (.i (g:Int))),(116,.d (.bq b))]) (λ_=>[(0,.whl 173 (.st x.enc)),(1,.var 314 [.d (.b false),.d (.b false),.d (.i 0),.d (.b false),.d (.i 0),.row 6,.d (.bs [])]),(6,.row 9 (.sl 1 strE ((n.kids.take g).map λk=>(oidT k.bytes).getD []))),(2,.var 314 [.d (.b false),.d (.b false),.d (.i 0),.d (.b false),.d (.i 0),.d nilV,.d nilV]),(3,.whl 35 (.nd n)),(5,.whl 173 (.st [.s [],.b false,nilV]))]) (λb=>b=(decide ((g:Int)<n.kids.length)&&decide ((g:Int)<40))) ?_ ?_
   ·refine W ?_;refine Bg U U (λq1=>?_) (λq1=>?_)
    ·refine W ?_;exact⟨decide ((g:Int)<40),by rw [aj q1];rfl,⟨⟨_,U,aZ⟩,⟨_,U,aZ⟩,⟨_,U,aZ⟩,⟨_,U,aZ⟩,⟨_,U,aZ⟩,⟨_,U,aZ⟩,⟨_,U,aZ⟩,trivial⟩,⟨U,U,U,U,U,U,trivial⟩⟩
    ·refine W ?_;exact⟨false,by rw [au q1];rfl,⟨⟨_,U,aZ⟩,⟨_,U,aZ⟩,⟨_,U,aZ⟩,⟨_,U,aZ⟩,⟨_,U,aZ⟩,⟨_,U,aZ⟩,⟨_,U,CvA.q⟩,trivial⟩,⟨U,U,U,U,U,U,trivial⟩⟩
   rintro b hb;refine Ci U (λq2=>?_) (λq2=>?_)
   ·rw [q2] at hb;simp only [Bool.true_eq,Bool.and_eq_true,ax] at hb;have hl:g<n.kids.length:=by omega
    have kg:=qh n g;have e3:(n.kids.take (g+1)).map (λk=>(oidT k.bytes).getD [])=(n.kids.take g).map (λk=>(oidT k.bytes).getD [])++[(oidT (n.kids.getD g (.mk 0 0 false [] [])).bytes).getD []]:=by
     rw [am hl,List.map_append,bG hl];rfl
    refine W ?_;refine Xap (kS 1 strE) (l2:=[(oidT (n.kids.getD g (.mk 0 0 false [] [])).bytes).getD []]) U U U U U U U (by simp only [aC,aG];omega) U U U ?_;refine RX1 U U ?_;refine df U ?_;refine Nvk 6 U U U U U ?_;refine W ?_;refine⟨g+1,by omega,⟨by omega,by omega⟩,⟨U,U,U,U,U,U,trivial⟩,?_⟩;show WkO [(0,.whl 173 (.st x.enc)),(1,.var 314 [.d (.b false),.d (.b false),.d (.i 0),.d (.b false),.d (.i 0),.row 6,.d (.bs [])]),(6,.row 9 (.sl 1 strE ((n.kids.take (g+1)).map λk=>(oidT k.bytes).getD []))),(2,.var 314 [.d (.b false),.d (.b false),.d (.i 0),.d (.b false),.d (.i 0),.d nilV,.d nilV]),(3,.whl 35 (.nd n)),(5,.whl 173 (.st [.s [],.b false,nilV]))] _;rw [e3];exact⟨U,U,U,U,U,U,trivial⟩
   ·rw [q2] at hb;have hL:(n.kids.take g).map (λk=>(oidT k.bytes).getD [])=useL n:=by
     unfold useL;by_cases hl:(g:Int)<n.kids.length
     ·rw [aj hl,Bool.true_and] at hb;rw [show g=40 by have:=of_decide_eq_false hb.symm;omega]
     ·rw [show g=n.kids.length by omega,List.take_length,aS z2_]
    rw [hL];refine Pb 6 U ?_;refine W ?_;cases hok:useOk (useL n) with
    |false =>
     refine Ci U (λq3=>?_) (λq3=>?_)
     ·refine W ?_;exact Rt U U ⟨⟨false,false,0,false,0,useL n,[]⟩,by rw [eS,hok];rfl⟩
     ·exact absurd q3 bT
    |true =>
     refine Ci U (λq3=>?_) (λq3=>?_)
     ·exact absurd (if_pos U) q3
     ·refine W ?_;exact⟨(⟨false,false,0,false,0,useL n,[]⟩,useX x.crit (useL n)),by rw [eS,hok];unfold useX;rw [if_pos hok];rfl,⟨⟨_,U,aZ⟩,⟨_,U,aZ⟩,⟨_,U,aZ⟩,⟨_,U,aZ⟩,trivial⟩,⟨_,U,CvE.r⟩,⟨_,U,CvE.r⟩,⟨_,U,CvE.r⟩,⟨_,U,CvE.r⟩,trivial⟩
  refine W ?_;refine Ci U (λh4=>?_) (λh4=>?_)
  ·have eS:saysB x=(skiOk (rdTop x.val).1.bytes&&valEq ((skiN (rdTop x.val).1.bytes).put.getD []) x.val):=by
    unfold saysB;rw [if_neg (show ¬ x.oid=oBasic from h1),if_neg (show ¬ x.oid=oUsage from h2),if_neg (show ¬ x.oid=oUses from h3),if_pos (show x.oid=oSki from h4)]
   have kb:=dQ (rdTop x.val).1;generalize (rdTop x.val).1=n at *;have cu:=rski_d n.bytes z2_;cases hok:skiOk n.bytes with
   |false =>
    rw [hok] at cu;refine W ?_;exact Rt U U ⟨⟨false,false,0,false,0,[],n.bytes⟩,by rw [eS,hok];rfl⟩
   |true =>
    rw [hok] at cu;refine W ?_;exact⟨(⟨false,false,0,false,0,[],n.bytes⟩,⟨oSki,false,(skiN n.bytes).put.getD []⟩),by rw [eS,hok];rfl,⟨⟨_,U,aZ⟩,⟨_,U,aZ⟩,⟨_,U,aZ⟩,⟨_,U,aZ⟩,trivial⟩,⟨_,U,CvE.r⟩,⟨_,U,CvE.r⟩,⟨_,U,CvE.r⟩,⟨_,U,CvE.r⟩,trivial⟩
  have eS:saysB x=true:=by
   unfold saysB;rw [if_neg (show ¬ x.oid=oBasic from h1),if_neg (show ¬ x.oid=oUsage from h2),if_neg (show ¬ x.oid=oUses from h3),if_neg (show ¬ x.oid=oSki from h4)]
  refine W ?_;exact Rt U U ⟨⟨false,false,0,false,0,[],[]⟩,by rw [eS];rfl⟩
 rintro⟨f,m⟩ hI;dsimp only at hI;show JD _ _ _ _ _ [(2,.own 0 0),(3,.own 1 0),(4,.own 2 0),(8,.own 5 0)] [(0,.whl 173 (.st x.enc)),(1,.var 314 [.d (.b f.hasBasic),.d (.b f.ca),.d (.i f.path),.d (.b f.hasUsage),.d (.i f.usage),.d (.sl 1 strE f.uses),.d (.bs f.ski)]),(2,.var 314 [.d (.b false),.d (.b false),.d (.i 0),.d (.b false),.d (.i 0),.d nilV,.d nilV]),(5,.whl 173 (.st m.enc))];refine W ?_;refine BXl 165 U (λhc h=>?_) (λhc h=>?_)
 ·rw [hc];refine W ?_;exact Rt U U ⟨f,by rw [hI];unfold valEq;rw [hc];rfl⟩
 ·rw [hc];refine W ?_;exact Rt U U ⟨f,by rw [hI];unfold valEq;rw [hc];rfl⟩
def okX (x:Xt):Bool:=decide (extE x=0)&&tellB x
def okXR (x:Xt):Bool:=decide (extE x=0)&&saysB x
theorem tJ (x:Xt):okXR x=okX x:=by
 unfold okXR okX;by_cases h:extE x=0
 ·rw [says_same x (by
   unfold extE at h;split at h
   ·rename_i h2;rw [Bool.and_eq_true,ax] at h2;exact h2.2
   ·exact absurd h bT)]
 ·rw [au h];rfl
abbrev OidNe (a b:Xt):Prop:=a.oid≠b.oid
theorem qy:∀ (l:List Xt) (seen:List Txt),extsP seen l=true<->(∀ x∈l,okX x=true/\x.oid ∉ seen)/\l.Pairwise OidNe
 |[],seen=>by simp [extsP]
 |x::r,seen=>by
  have ih:=qy r (seen++[x.oid]);simp only [extsP];have e1:((seen.any λt=>decide (t=x.oid))=true)<->x.oid∈seen:=by simp
  rw [List.pairwise_cons];by_cases h1:extE x=0
  ·rw [if_neg (by simpa using h1)];by_cases h2:x.oid∈seen
   ·rw [if_pos (e1.2 h2)];simp only [c_,false_iff];rintro⟨h,_⟩;exact(h x (aK ..)).2 h2
   ·rw [if_neg (λh=>h2 (e1.1 h))];by_cases h3:tellB x=true
    ·rw [if_pos h3,ih];constructor
     ·rintro⟨p1,p2⟩;refine⟨λy hy=>?_,λy hy=>?_,p2⟩
      ·rw [List.mem_cons] at hy;rcases hy with rfl|hy
       ·exact⟨by unfold okX;rw [aj h1,h3];rfl,h2⟩
       ·have:=p1 y hy;exact⟨this.1,λh=>this.2 (List.mem_append_left _ h)⟩
      ·have:=p1 y hy;exact λh=>this.2 (by rw [<- h];simp)
     ·rintro⟨p1,p2,p3⟩;refine⟨λy hy=>?_,p3⟩;have q:=p1 y (aP _ hy);refine⟨q.1,λh=>?_⟩;rw [List.mem_append,List.mem_singleton] at h;rcases h with h|h
      ·exact q.2 h
      ·exact p2 y hy h.symm
    ·rw [if_neg h3];simp only [c_,false_iff];rintro⟨h,_⟩;have:=(h x (aK ..)).1;unfold okX at this;simp at this;exact h3 this.2
  ·rw [if_pos h1];simp only [c_,false_iff];rintro⟨h,_⟩;have:=(h x (aK ..)).1;unfold okX at this;simp at this;exact h1 this.1
theorem qz (l:List Xt):extsB l=true<->l.length<=32/\(∀ x∈l,okX x=true)/\l.Pairwise OidNe:=by
 unfold extsB;rw [Bool.and_eq_true,ax,qy];constructor
 ·rintro⟨⟨h1,h2⟩,h3⟩;exact⟨by omega,λx hx=>(h1 x hx).1,h2⟩
 ·rintro⟨h1,h2,h3⟩;exact⟨⟨λx hx=>⟨h2 x hx,by simp⟩,h3⟩,by omega⟩
theorem rexts_d (l:List Xt) (hB:∀ x∈l,x.oid.length<=12000/\x.val.length<=12000) (hl:l.length<=100000):FnD prog 277 [.sl 3 Xt.enc l] (.b (extsB l)):=by
 have bad:¬ (l.length<=32/\(∀ x∈l,okX x=true)/\l.Pairwise OidNe)->extsB l=false:=λh=>by
  cases hh:extsB l with
  |false=>rfl
  |true=>exact absurd ((qz l).1 hh) h
 refine aE func277 U ntmps277 U (λe=>?_);refine W ?_;refine Ci U (λh0=>?_) (λh0=>?_)
 ·rw [bad (λh=>by have:=h.1;omega)];refine W ?_;exact Rt U U U
 refine W ?_;refine Lp (γ:=Nat) (λg=>g<=l.length/\(∀ x∈l.take g,okX x=true)/\(l.take g).Pairwise OidNe) (λg=>l.length+1-g) (λg=>[(0,.d (.sl 3 Xt.enc l)),(3,.d (.i (g:Int)))]) (λ_=>[]) 0 ⟨by omega,by simp,by simp⟩ ⟨U,U,trivial⟩ trivial ?_;rintro g ⟨hg,ha,hp⟩;refine W ?_;refine Ci U (λh1=>?_) (λh1=>?_)
 ·have hlt:g<l.length:=by omega
  have hget:l.getD g default=l[g]:=bG hlt;obtain⟨b1,b2⟩:=hB _ (aF hlt);rw [<- hget] at b1 b2;have hmem:l.getD g default∈l:=by rw [hget];exact aF hlt
  have c1:=mS (l.getD g default) z2_ z2_;have htk:l.take (g+1)=l.take g++[l.getD g default]:=by rw [am hlt,hget]
  refine W ?_;refine Ce U U (rsays_e (l.getD g default) b2) (λd' hd=>?_);obtain⟨fc,rfl⟩:=hd;refine W ?_;have badX:okX (l.getD g default)=false->extsB l=false:=λh=>bad (λhh=>by rw [hh.2.1 _ hmem] at h;cases h);rw [<- tJ] at badX;refine Bg U U (λq1=>?_) (λq1=>?_)
  ·rw [badX (by unfold okXR;rw [au q1];rfl)];refine W ?_;exact Rt U U U
  refine W ?_;refine Ci U (λq2=>?_) (λq2=>?_)
  ·rw [badX (by unfold okXR;rw [show saysB (l.getD g default)=false by simpa using q2,Bool.and_false])];refine W ?_;exact Rt U U U
  have okg:okX (l.getD g default)=true:=by
   rw [<- tJ];unfold okXR;rw [aj (show extE (l.getD g default)=0 by simpa using q1),show saysB (l.getD g default)=true by simpa using q2];rfl
  refine W ?_;refine Lp (γ:=Nat) (λk=>k<=g/\∀ j,j<k->(l.getD j default).oid≠(l.getD g default).oid) (λk=>g+1-k) (λk=>[(0,.d (.sl 3 Xt.enc l)),(3,.d (.i (g:Int))),(8,.d (.i (k:Int)))]) (λ_=>[]) 0 ⟨by omega,λj hj=>by omega⟩ ⟨U,U,U,trivial⟩ trivial ?_;rintro k ⟨hk,hne⟩;refine W ?_;refine Ci U (λq3=>?_) (λq3=>?_)
  ·refine W ?_;refine Ci U (λq4=>?_) (λq4=>?_)
   ·rw [bad (λhh=>by
     have h2:=List.pairwise_iff_getElem.1 hh.2.2 k g z2_ hlt z2_;rw [hget,bG (show k<l.length by omega)] at q4;exact h2 q4)]
    refine W ?_;exact Rt U U U
   ·refine W ?_;refine⟨k+1,by omega,⟨by omega,λj hj=>?_⟩,⟨U,U,U,trivial⟩,trivial⟩;by_cases hjk:j=k
    ·subst hjk;exact q4
    ·exact hne j z2_
  ·refine W ?_;refine⟨g+1,by omega,⟨by omega,?_,?_⟩,⟨U,U,trivial⟩,trivial⟩
   ·rw [htk];intro y hy;rw [List.mem_append,List.mem_singleton] at hy;rcases hy with hy|rfl
    ·exact ha y hy
    ·exact okg
   ·rw [htk,List.pairwise_append];refine⟨hp,by simp,λy hy z hz=>?_⟩;rw [List.mem_singleton] at hz;subst hz;obtain⟨j,hj,rfl⟩:=List.getElem_of_mem hy;have hjl:j<g:=by have:=hj;rw [bz] at this;omega
    have:=hne j z2_;rw [bG (show j<l.length by omega)] at this;rw [List.getElem_take];exact this
 ·have hge:l.take g=l:=aS z2_;rw [hge] at ha hp;rw [(qz l).2 ⟨by omega,ha,hp⟩];refine W ?_;exact Rt U U U
theorem nF (t:Int):timeE t=0<->inT t:=by
 unfold timeE shortO longO;by_cases h1:t < -631152000\/2524607999<t
 ·rw [if_pos h1];by_cases h2:t < -62167219200\/253402300799<t
  ·rw [if_pos h2];simp;omega
  ·rw [if_neg h2];simp;omega
 ·rw [if_neg h1];simp;omega
theorem rn (h:Int):0<=shaSize h:=by
 unfold shaSize;split
 ·rename_i hh;unfold someH at hh;omega
 ·omega
def shapeB (c:Crt):Bool:=decide (0<nbitsI c.serial)&&decide (nbitsI c.serial<=160)&&decide (0<shaSize c.hash)&&decide (-62167219200<=c.frm)&&decide (c.frm<=253402300799)&&decide (-62167219200<=c.to_)&&decide (c.to_<=253402300799)
theorem rshape_d (c:Crt) (h:crtW c<=12000):FnD prog 276 [.st c.enc] (.b (shapeB c)):=by
 have hw:=mE h;have c0:=jS c.serial (by have:=hw.ser;omega);unfold shapeB;exact aE func276 U ntmps276 U (λe=>Z)
theorem pL (c:Crt):rightE c=if shapeB c=false then 60 else if nameE c.issuer≠0 then 61 else if nameE c.subject≠0 then 61 else if kyB c.key=false then 50 else if nbitsI c.key.d≠0 then 50 else if extsB c.exts=false then 62 else 0:=by
 have hs:=rn c.hash;have h1:=nF c.frm;have h2:=nF c.to_;have hk:(0<nbitsI c.key.d)=(nbitsI c.key.d≠0):=by
  have h0:(0:Int)<=nbitsI c.key.d:=Int.natCast_nonneg _;apply propext;constructor<;>intro h<;>omega
 have hn:(0:Int)<=nbitsI c.serial:=Int.natCast_nonneg _;unfold rightE;simp only [hk];cases hS:shapeB c with
 |true =>
  unfold shapeB at hS;simp only [Bool.and_eq_true,ax] at hS;rw [if_neg z2_,if_neg z2_,if_neg z2_,if_neg (λh=>h (h1.2 ⟨by omega,by omega⟩)),if_neg (λh=>h (h2.2 ⟨by omega,by omega⟩)),if_neg (show ¬ (true=false) by simp)]
 |false =>
  rw [if_pos rfl];split
  ·rfl
  split
  ·rfl
  split
  ·rfl
  split
  ·rfl
  split
  ·rfl
  rename_i q1 q2 q3 q4 q5;have q4:=h1.1 (Decidable.not_not.1 q4);have q5:=h2.1 (Decidable.not_not.1 q5);have:shapeB c=true:=by
   unfold shapeB;simp only [Bool.and_eq_true,ax];omega
  rw [this] at hS;cases hS
theorem pE (c:Crt) (h:crtW c<=12000):FnD prog 256 [.st c.enc] (.i (rightE c)):=by
 have hw:=mE h;have h2:=eM xtW (λa=>by unfold xtW;omega) c.exts;have hl:c.exts.length<=12000:=by unfold crtW at h;omega
 have c0:=rshape_d c h;have c1:=fY c.issuer hw.isu hw.isuB;have c2:=fY c.subject hw.sub hw.subB;have c3:=rexts_d c.exts (λx hx=>by have:=gz xtW hx;have e:xtW x=1+x.oid.length+x.val.length:=rfl;unfold crtW at h;omega) z2_;have c4:=iK c.key (by have:=hw.kn;omega) (by have:=hw.ke;omega) (by have:=hw.kd;omega);have c5:=jS c.key.d (by have:=hw.kd;omega);rw [pL];exact aE func256 U ntmps256 U (λe=>Z)
theorem rright_d (c:Crt) (h:crtW c<=12000):FnD prog 228 [.st c.enc] (.i (certE c)):=by
 have c0:=pE c h;have e:certE c=if(c.sig.length:Int)=0 then 60 else if 512<(c.sig.length:Int) then 60 else rightE c:=by
  unfold certE;by_cases h0:(c.sig.length:Int)=0
  ·rw [if_pos z2_,if_pos h0]
  ·rw [if_neg z2_,if_neg h0]
 rw [e];exact aE func228 U ntmps228 U (λe=>Z)
theorem nY (b:Txt) (hb:b.length<=1000000000):FnD prog 233 [.bs b] (.nd (.mk 0 3 false (0::b) [])):=by
 refine aE func233 U ntmps233 U (λe=>?_);refine W ?_;refine Pl 1 U ?_;refine W ?_;exact Rt U U U
instance:Cn prog 233 (type_of% @nY):=⟨@nY⟩
theorem rbuild_d (c:Crt) (kb:Txt) (h:crtW c<=12000) (hk:kb.length<=1000000):FnD prog 258 [.st c.enc,.bs kb] (.nd (bodN c kb)):=by
 have hw:=mE h;have h2:=eM xtW (λa=>by unfold xtW;omega) c.exts;have hl:c.exts.length<=12000:=by unfold crtW at h;omega
 have hx:∀ x∈c.exts,x.oid.length<=12000/\x.val.length<=12000:=λx hx=>by have:=gz xtW hx;have e:xtW x=1+x.oid.length+x.val.length:=rfl;unfold crtW at h;omega
 have c1:=fY c.issuer hw.isu hw.isuB;have c2:=fY c.subject hw.sub hw.subB;rw [<- k7] at c1 c2;have hN:bodN c kb=.mk 0 16 true [] (bodK c kb++expK c.exts):=rfl;refine aE func258 U ntmps258 U (λe=>?_);refine Wp ?_;refine Xg mK U U U ?_;refine Cx U U (kP 2 bT bT) ?_;refine Wn ?_;refine Cx U U (rctx_d 0 _) ?_;refine Wn ?_;refine Cx U U (pJ c.serial hw.ser) ?_;refine Wn ?_;refine Cx U U (tD c.hash) ?_;refine Wn ?_;refine Cx U U (mN _ _) ?_;refine Wn ?_;refine Cx U U (kK (s:=oRsa) bT) ?_;refine Wn ?_;refine Cx U U (mN (oiN oRsa) (.mk 0 5 false [] [])) ?_;refine Wn ?_;refine Cx U U (nY kb z2_) ?_;refine Wn ?_;refine Cx U U (mN (.mk 0 16 true [] [oiN oRsa,.mk 0 5 false [] []]) (.mk 0 3 false (0::kb) [])) ?_;refine Xlt kN (l:=bodK c kb) U U U U U U U U U U ?_;refine Wn ?_;refine df U ?_;refine W ?_;refine Rn kN 14 35 U U ?_;refine Lp (γ:=Nat) (λg=>g<=c.exts.length) (λg=>c.exts.length+1-g) (λg=>[(2,.own 0 0),(4,.own 1 0),(13,.row 6),(14,.row 7),(15,.d (.i (g:Int)))])
  (λg=>[(7,.row 35 (.nds ((c.exts.take g).map extN))),(6,.row 35 (.nds (bodK c kb))),(1,.var 35 [.d (.i 0),.d (.i 0),.d (.b false),.d nilV,.d nilV]),(0,.whl 68 (.st c.enc))]) 0 z2_ ⟨U,U,U,U,U,trivial⟩ ⟨U,U,U,U,trivial⟩ ?_
 intro g hg;have hml:((c.exts.take g).map extN).length<=12000:=by rw [aD];have:=List.length_take_le' g c.exts;omega
 have hbk:(bodK c kb).length=7:=rfl;refine W ?_;refine Ci U (λg1=>?_) (λg1=>?_)
 ·have hlt:g<c.exts.length:=by omega
  have hget:c.exts.getD g default=c.exts[g]:=bG hlt;obtain⟨x1,x2⟩:=hx _ (aF hlt);rw [<- hget] at x1 x2;have c3:=mS (c.exts.getD g default) z2_ z2_;have htk:(c.exts.take (g+1)).map extN=(c.exts.take g).map extN++[extN (c.exts.getD g default)]:=by rw [am hlt,List.map_append,hget];rfl
  refine W ?_;refine⟨g+1,by omega,by omega,⟨U,U,U,U,U,trivial⟩,?_⟩;show WkO [(7,.row 35 (.nds ((c.exts.take (g+1)).map extN))),(6,.row 35 (.nds (bodK c kb))),(1,.var 35 [.d (.i 0),.d (.i 0),.d (.b false),.d nilV,.d nilV]),(0,.whl 68 (.st c.enc))] _;rw [htk];exact⟨U,U,U,U,trivial⟩
 ·have hge:c.exts.take g=c.exts:=aS z2_;rw [hge];have hle:(c.exts.map extN).length=c.exts.length:=aD ..;refine W ?_;refine Ci U (λg2=>?_) (λg2=>?_)
  ·refine W ?_;refine Rt U U ?_;rw [hN];unfold expK;rw [if_neg (by rintro e;rw [e] at g2;simp at g2)];rfl
  ·have e0:c.exts=[]:=List.eq_nil_of_length_eq_zero z2_;refine W ?_;refine Rt U U ?_;rw [hN,e0];rfl
theorem rwhole_d (c:Crt) (kb:Txt) (h:crtW c<=12000) (hk:kb.length<=1000000):FnD prog 230 [.st c.enc,.bs kb] (.nd (.mk 0 16 true [] [bodN c kb,algN c.hash,.mk 0 3 false (0::c.sig) []])):=by
 have c1:=rbuild_d c kb h hk;have hl:c.sig.length<=12000:=by unfold crtW at h;omega
 refine aE func230 U ntmps230 U (λe=>?_);refine W ?_;exact Rt U U U
theorem rL (c:Crt) (h:crtW c<=12000):FnD prog 177 [.st c.enc] (.tup [.nd (crtN c),.i (certE c)]):=by
 have hw:=mE h;have c0:=rright_d c h;have s7:=mq hw.kn hw.ke;have c1:=rwhole_d c (kyL c.key) h z2_;have c2:=iL c.key hw.kn hw.ke hw.kd;unfold crtN;refine aE func177 U ntmps177 U (λe=>?_);refine W ?_;refine Ci U (λh1=>?_) (λh1=>?_)
 ·rw [if_neg h1];refine W ?_;exact Rt U U U
 ·have h1':certE c=0:=by simpa using h1
  rw [if_pos h1'];refine W ?_;exact Rt U U (by simp only [resD,h1'];rfl)
def cbR (c:Crt):Txt:=if certE c=0 then(crtN c).put.getD [] else []
theorem pS (c:Crt) (h:crtW c<=12000):FnD prog 132 [.st c.enc] (.tup [.bs (cbR c),.i (certE c)]):=by
 have hs:=(iV h).2;have c1:=rL c h;unfold cbR;refine aE func132 U ntmps132 U (λe=>?_);refine W ?_;refine Ci U (λh1=>?_) (λh1=>?_)
 ·rw [if_neg h1];refine W ?_;exact Rt U U U
 ·have h1':certE c=0:=by simpa using h1
  rw [if_pos h1',h1'];refine W ?_;exact Rt U U U
theorem gN (c:Crt) (h:crtW c<=12000):FnD prog 78 [.st c.enc] (.bs (cbR c)):=by
 have c1:=pS c h;refine aE func78 U ntmps78 U (λe=>?_);refine W ?_;refine Ci U (λh1=>?_) (λh1=>?_)
 ·have e1:cbR c=[]:=if_neg h1;rw [e1];refine W ?_;exact Rt U U U
 ·refine W ?_;exact Rt U U U
theorem pK (t:Int):FnD prog 282 [.i t] (.b (decide (timeE t=0))):=by
 have h:FnD prog 282 [.i t] (.b (decide (-62167219200<=t)&&decide (t<=253402300799))):=aE func282 U ntmps282 U (λe=>Z);rw [show(decide (-62167219200<=t)&&decide (t<=253402300799))=decide (timeE t=0) by
  rw [<- Bool.decide_and];exact decide_eq_decide.2 (nF t).symm] at h
 exact h
instance:Cn prog 282 (type_of% @pK):=⟨@pK⟩
theorem risser_d (s:List UInt32) (hs:s.length<=1000000):FnD prog 283 [.ws s] (.b (serB s)):=by
 have c0:=jS s hs;have h:FnD prog 283 [.ws s] (.b (decide (1<=nbitsI s)&&decide (nbitsI s<=160))):=aE func283 U ntmps283 U (λe=>Z);rw [show decide (1<=nbitsI s)=decide (0<nbitsI s) from decide_eq_decide.2 z2_] at h;exact h
theorem cmp_anti (a b:Nat):cmpI3 a b=-1<->0<cmpI3 b a:=by
 unfold cmpI3;(repeat' split)<;>omega
theorem rright7_d (l:Cl) (hw:clW l<=12000):FnD prog 259 [.st l.enc] (.i (clRE l)):=by
 unfold clW at hw;have h1:=eM atW (λa=>by unfold atW;omega) l.issuer;have h2:=eM gnW (λa=>by unfold gnW;omega) l.gone;have c1:=fY l.issuer z2_ (λa ha=>by have:=iX ha;omega);have hgs:∀ g∈l.gone,g.serial.length<=12000:=λg hg=>by
  have:=gz gnW hg;have e:gnW g=1+4*g.serial.length:=rfl;omega
 have eN:(if nameE l.issuer≠0 then(61:Int) else 0)=nameE l.issuer:=by unfold nameE;split<;>simp_all
 unfold clRE;rw [eN];refine aE func259 U ntmps259 U (λe=>?_);refine W ?_;refine Bg U U (λg1=>?_) (λg1=>?_)
 ·rw [if_pos g1];refine W ?_;exact Rt U U U
 rw [if_neg g1];refine W ?_;refine Bg U U (λg2=>?_) (λg2=>?_)
 ·rw [if_pos (by simpa using g2)];refine W ?_;exact Rt U U U
 rw [if_neg (by simpa using g2)];refine W ?_;refine Bg U U (λg3=>?_) (λg3=>?_)
 ·rw [if_pos (by simpa using g3)];refine W ?_;exact Rt U U U
 rw [if_neg (by simpa using g3)];refine W ?_;refine Bg U U (λg4=>?_) (λg4=>?_)
 ·rw [if_pos g4];refine W ?_;exact Rt U U U
 rw [if_neg g4];refine W ?_;refine Ci U (λg5=>?_) (λg5=>?_)
 ·rw [if_pos g5];refine W ?_;exact Rt U U U
 rw [if_neg g5];refine W ?_;refine Lp (γ:=Nat) (λg=>g<=l.gone.length/\∀ j,j<g->goneAt l.gone j=true) (λg=>l.gone.length+1-g)
  (λg=>[(1,.own 0 0),(3,.d (.i (g:Int)))]) (λ_=>[(0,.whl 72 (.st l.enc))]) 0 ⟨by omega,λj hj=>by omega⟩ ⟨U,U,trivial⟩ ⟨U,trivial⟩ ?_
 rintro g ⟨hg,hall⟩;refine W ?_;refine Ci U (λh3=>?_) (λh3=>?_)
 ·have hlt:g<l.gone.length:=by omega
  have hget:l.gone.getD g default=l.gone[g]:=bG hlt;have z1:=hgs _ (aF hlt);rw [<- hget] at z1;have z2:(l.gone.getD (g-1) default).serial.length<=12000:=by
   rw [bG (show g-1<l.gone.length by omega)];exact hgs _ (aF _)
  have bad:goneAt l.gone g=false->goneB l.gone=false:=λhb=>au λhh=>by rw [hh g hlt] at hb;cases hb
  have cs:=risser_d (l.gone.getD g default).serial z2_;have cc:=rcmp_d (l.gone.getD (g-1) default).serial (l.gone.getD g default).serial z2_ z2_;refine W ?_;refine BXl 50 U (λhc q1=>?_) (λhc q1=>?_)
  ·rw [hc,if_pos (bad (by unfold goneAt;rw [show serB (l.gone.getD g default).serial=false by simpa using hc];simp))];refine W ?_;exact Rt U U U
  rw [hc];refine W ?_;refine BXl 60 U (λhc2 q2=>?_) (λhc2 q2=>?_)
  ·rw [hc2,if_pos (bad (by unfold goneAt;rw [show decide (timeE (l.gone.getD g default).at_=0)=false by simpa using hc2];rfl))];refine W ?_;exact Rt U U U
  rw [hc2];refine W ?_;have q1':serB (l.gone.getD g default).serial=true:=by simpa using hc
  have q2':decide (timeE (l.gone.getD g default).at_=0)=true:=by simpa using hc2
  refine BXl 63 U (λhc3 q3=>?_) (λhc3 q3=>?_)
  ·rw [hc3];have e1:((g:Int)-1).toNat=g-1:=by omega
   rw [<- e1] at cc;refine W ?_;rw [e1];have ca:=cmp_anti (vL (l.gone.getD (g-1) default).serial) (vL (l.gone.getD g default).serial);refine Ci U (λq4=>?_) (λq4=>?_)
   ·rw [if_pos (bad (by unfold goneAt;rw [au (p:=0<cmpI3 _ _) (λh=>q4 (ca.2 h)),au (p:=g=0) z2_];simp))];refine W ?_;exact Rt U U U
   ·refine W ?_;refine⟨g+1,by omega,⟨by omega,λj hj=>?_⟩,⟨U,U,trivial⟩,⟨U,trivial⟩⟩;by_cases hjg:j=g
    ·subst hjg;unfold goneAt;rw [q1',q2',aj (p:=0<cmpI3 _ _) (ca.1 (by simpa using q4))];simp
    ·exact hall j z2_
  ·rw [hc3];refine W ?_;refine⟨g+1,by omega,⟨by omega,λj hj=>?_⟩,⟨U,U,trivial⟩,⟨U,trivial⟩⟩;by_cases hjg:j=g
   ·subst hjg;unfold goneAt;rw [q1',q2',aj (p:=j=0) z2_];rfl
   ·exact hall j z2_
 ·have ok:goneB l.gone=true:=aj λj hj=>hall j z2_;rw [if_neg (by rw [ok];simp)];refine W ?_;exact Rt U U U
theorem pG (l:Cl) (hw:clW l<=12000):FnD prog 231 [.st l.enc] (.i (clE l)):=by
 have c0:=rright7_d l hw;have e:clE l=if(l.sig.length:Int)=0 then 60 else if 512<(l.sig.length:Int) then 60 else clRE l:=by
  unfold clE;by_cases h0:(l.sig.length:Int)=0
  ·rw [if_pos z2_,if_pos h0]
  ·rw [if_neg z2_,if_neg h0]
 rw [e];exact aE func231 U ntmps231 U (λe=>Z)
theorem rpbuild_d (l:Cl) (hw:clW l<=12000):FnD prog 232 [.st l.enc] (.nd (clB l)):=by
 unfold clW at hw;have h1:=eM atW (λa=>by unfold atW;omega) l.issuer;have h2:=eM gnW (λa=>by unfold gnW;omega) l.gone;have c1:=fY l.issuer z2_ (λa ha=>by have:=iX ha;omega);rw [<- k7] at c1;have hgs:∀ g∈l.gone,g.serial.length<=4096:=λg hg=>by
  have:=gz gnW hg;have e:gnW g=1+4*g.serial.length:=rfl;omega
 have hN:clB l=.mk 0 16 true [] (clK l++gonK l.gone):=rfl;refine aE func232 U ntmps232 U (λe=>?_);refine Wp ?_;refine Xg mK U U U ?_;refine Cx U U (kP 1 bT bT) ?_;refine Wn ?_;refine Cx U U (tD l.hash) ?_;refine JX.s2r U U U U U U ?_;refine JX.s2r U U U U U U ?_;refine JX.s2r U U U U U U ?_;refine Xlt kN (l:=clK l) U U U U U U U U U U ?_;refine Wn ?_;refine df U ?_;refine W ?_;refine Rn kN 10 35 U U ?_;refine Lp (γ:=Nat) (λg=>g<=l.gone.length) (λg=>l.gone.length+1-g) (λg=>[(1,.own 0 0),(2,.own 1 0),(9,.row 5),(10,.row 6),(11,.d (.i (g:Int)))])
  (λg=>[(6,.row 35 (.nds ((l.gone.take g).map gnN))),(5,.row 35 (.nds (clK l))),(1,.var 35 [.d (.i 0),.d (.i 0),.d (.b false),.d nilV,.d nilV]),(0,.whl 72 (.st l.enc))]) 0 z2_ ⟨U,U,U,U,U,trivial⟩ ⟨U,U,U,U,trivial⟩ ?_
 intro g hg;have hml:((l.gone.take g).map gnN).length<=12000:=by rw [aD];have:=List.length_take_le' g l.gone;omega
 have hbk:(clK l).length=5:=rfl;refine W ?_;refine Ci U (λg1=>?_) (λg1=>?_)
 ·have hlt:g<l.gone.length:=by omega
  have hget:l.gone.getD g default=l.gone[g]:=bG hlt;have z1:=hgs _ (aF hlt);rw [<- hget] at z1;have c3:=pJ (l.gone.getD g default).serial z1;have htk:(l.gone.take (g+1)).map gnN=(l.gone.take g).map gnN++[gnN (l.gone.getD g default)]:=by rw [am hlt,List.map_append,hget];rfl
  refine W ?_;refine Xap kN U U U U U U U (by simp only [aC,aG];omega) U U U ?_;refine RX1 U U ?_;refine df U ?_;refine Nvk 6 U U U U U ?_;refine W ?_;refine⟨g+1,by omega,by omega,⟨U,U,U,U,U,trivial⟩,?_⟩;show WkO [(6,.row 35 (.nds ((l.gone.take (g+1)).map gnN))),(5,.row 35 (.nds (clK l))),(1,.var 35 [.d (.i 0),.d (.i 0),.d (.b false),.d nilV,.d nilV]),(0,.whl 72 (.st l.enc))] _;rw [htk];exact⟨U,U,U,U,trivial⟩
 ·have hge:l.gone.take g=l.gone:=aS z2_;rw [hge];have hle:(l.gone.map gnN).length=l.gone.length:=aD ..;refine W ?_;refine Ci U (λg2=>?_) (λg2=>?_)
  ·refine W ?_;refine Rt U U ?_;rw [hN];unfold gonK;rw [if_neg (by rintro e;rw [e] at g2;simp at g2)];rfl
  ·have e0:l.gone=[]:=List.eq_nil_of_length_eq_zero z2_;refine W ?_;refine Rt U U ?_;rw [hN,e0];rfl
theorem rx (l:Cl) (h:clW l<=12000):FnD prog 178 [.st l.enc] (.tup [.nd (clN l),.i (clE l)]):=by
 have c1:=rpbuild_d l h;have c2:=pG l h;have hl:l.sig.length<=12000:=by unfold clW at h;omega
 unfold clN;refine aE func178 U ntmps178 U (λe=>?_);refine W ?_;refine Ci U (λh1=>?_) (λh1=>?_)
 ·rw [if_neg h1];refine W ?_;exact Rt U U U
 ·have h1':clE l=0:=by simpa using h1
  rw [if_pos h1'];refine W ?_;exact Rt U U (by simp only [resD,h1'])
def lbR (l:Cl):Txt:=if clE l=0 then(clN l).put.getD [] else []
theorem pF (l:Cl) (h:clW l<=12000):FnD prog 133 [.st l.enc] (.tup [.bs (lbR l),.i (clE l)]):=by
 have hs:=ne h;have c1:=rx l h;unfold lbR;refine aE func133 U ntmps133 U (λe=>?_);refine W ?_;refine Ci U (λh1=>?_) (λh1=>?_)
 ·rw [if_neg h1];refine W ?_;exact Rt U U U
 ·have h1':clE l=0:=by simpa using h1
  rw [if_pos h1',h1'];refine W ?_;exact Rt U U U
theorem iM (l:Cl) (h:clW l<=12000):FnD prog 79 [.st l.enc] (.bs (lbR l)):=by
 have c1:=pF l h;refine aE func79 U ntmps79 U (λe=>?_);refine W ?_;refine Ci U (λh1=>?_) (λh1=>?_)
 ·have e1:lbR l=[]:=if_neg h1;rw [e1];refine W ?_;exact Rt U U U
 ·refine W ?_;exact Rt U U U
theorem gi (s:Sg) (hw:SgW s):FnD prog 134 [.st s.enc] (.tup [.nd (sgN s),.i (sgE s)]):=by
 have hr0:=vl s hw;cases hr:rightSg s with
 |false =>
  rw [hr] at hr0;refine aE func134 U ntmps134 U (λe=>?_);refine W ?_;refine Rt U U ?_;simp only [resD,sgN,sgE,hr];rfl
 |true =>
  rw [hr] at hr0;have c4:=lf s.signed hw.sgd hw.sgdB;have c6:=lf s.unsigned hw.uns hw.unsB;have c1:Tg (FnD prog 180 [.sl 3 At.enc s.issuer] (.tup [.nd (nameN s.issuer),.i (nameE s.issuer)])):=⟨by
   have h:=fY s.issuer hw.isu hw.isuB;rw [<- k7] at h;exact h⟩
  have res:∀ L,sgK s=L->resD [.nd (.mk 0 16 true [] L),.i 0]=.tup [.nd (sgN s),.i (sgE s)]:=λL hL=>by
   simp only [resD,sgN,sgE,hr,if_true,hL]
  have u0:∀ {l:List Fe},¬ 0<(l.length:Int)->l=[]:=λh=>List.eq_nil_of_length_eq_zero z2_;have hrr:=hr;simp only [rightSg,Bool.and_eq_true,ax] at hrr;obtain⟨⟨⟨⟨⟨r1,r2⟩,r3⟩,r4⟩,r5⟩,r6⟩:=hrr;have l4:(s.signed.map fieldN).length<=16:=by rw [aD];exact nO r3
  have l6:(s.unsigned.map fieldN).length<=16:=by rw [aD];exact nO r4
  have hw':Tg (SgW s):=⟨hw⟩;have hr1:=Tg.mk hr0;clear hw hr hr0;refine aE func134 U ntmps134 U (λe=>?_);refine W ?_;refine Ca U U hr1.k ?_;refine R3 U U ?_;refine JLD.nil ?_
  repeat (first|refine JD.seq ?_|refine JD.skip ?_|refine Cqf rfl ?_|refine Cf rfl ?_)
  refine JD.region ?_;refine R3 U U ?_;refine Ca U U c1.k ?_;refine R3 U U ?_;refine JLD.nil ?_
  repeat (first|refine JD.seq ?_|refine JD.skip ?_)
  refine Xg mK U U U ?_;refine Cx U U (kP 1 bT bT) ?_;refine RX1 U U ?_;refine Cx U U (pJ s.serial hw'.k.ser) ?_;refine Cx U U (mN (nameN s.issuer) (natN s.serial)) ?_;refine Xlt kN (l:=[.mk 0 2 false (intB 1) [],.mk 0 16 true [] [nameN s.issuer,natN s.serial]]) U U U U U U U U U U ?_;refine RX1 U U ?_;refine df U ?_;refine W ?_;refine Ci U (λh2=>?_) (λh2=>?_)
  ·repeat (first|refine JD.seq ?_|refine JD.skip ?_)
   refine Xg mK U U U ?_;refine Cx U U (kP 3 bT bT) ?_;refine cK U (St1.val2 U U U) ?_;refine JX.s2r U U U U U U ?_;refine cK U (St1.val2 U U U) ?_;refine Xlt kN (l:=[.mk 0 2 false (intB 3) [],.mk 2 0 false s.ski []]) U U U U U U U U U U ?_;refine RX1 U U ?_;refine df U ?_;refine W ?_;refine Ci U (λh3=>?_) (λh3=>?_)
   ·refine W ?_;refine Ci U (λh4=>?_) (λh4=>?_)
    ·refine W ?_;refine Rt U U (res _ ?_);unfold sgK whoN verN;rw [if_pos h2,if_pos h2];rw [ef (fj h3),ef (fj h4)];rfl
    ·refine W ?_;refine Rt U U (res _ ?_);unfold sgK whoN verN;rw [if_pos h2,if_pos h2];rw [ef (fj h3),u0 h4,dD];rfl
   ·refine W ?_;refine Ci U (λh4=>?_) (λh4=>?_)
    ·refine W ?_;refine Rt U U (res _ ?_);unfold sgK whoN verN;rw [if_pos h2,if_pos h2];rw [u0 h3,dD,ef (fj h4)];rfl
    ·refine W ?_;refine Rt U U (res _ ?_);unfold sgK whoN verN;rw [if_pos h2,if_pos h2];rw [u0 h3,dD,u0 h4,dD];rfl
  ·refine W ?_;refine Ci U (λh3=>?_) (λh3=>?_)
   ·refine W ?_;refine Ci U (λh4=>?_) (λh4=>?_)
    ·refine W ?_;refine Rt U U (res _ ?_);unfold sgK whoN verN;rw [if_neg h2,if_neg h2];rw [ef (fj h3),ef (fj h4)];rfl
    ·refine W ?_;refine Rt U U (res _ ?_);unfold sgK whoN verN;rw [if_neg h2,if_neg h2];rw [ef (fj h3),u0 h4,dD];rfl
   ·refine W ?_;refine Ci U (λh4=>?_) (λh4=>?_)
    ·refine W ?_;refine Rt U U (res _ ?_);unfold sgK whoN verN;rw [if_neg h2,if_neg h2];rw [u0 h3,dD,ef (fj h4)];rfl
    ·refine W ?_;refine Rt U U (res _ ?_);unfold sgK whoN verN;rw [if_neg h2,if_neg h2];rw [u0 h3,dD,u0 h4,dD];rfl
instance:Cn prog 134 (type_of% @gi):=⟨@gi⟩
def sbR (s:Sg):Txt:=if sgE s≠0 then [] else(sgN s).put.getD []
theorem jQ (s:Sg) (h:sgW s<=12000):FnD prog 80 [.st s.enc] (.bs (sbR s)):=by
 have hz:=mM h;have hc:=gi s (pt h);have hb:=i_ (sgN s) z2_;unfold sbR;exact aE func80 U ntmps80 U (λe=>Z)
instance:Cn prog 80 (type_of% @jQ):=⟨@jQ⟩
instance:Cn prog 78 (type_of% @gN):=⟨@gN⟩
instance:Cn prog 79 (type_of% @iM):=⟨@iM⟩
theorem tC (s:Sd) (h:SdW s):FnD prog 38 [.st s.enc] (.tup [.sl 1 bE (s.certs.map cbR),.sl 1 bE (s.crls.map lbR),.sl 1 bE (s.signers.map sbR)]):=by
 obtain⟨b1,b2,b3,b4,b5,b6,b7,b8⟩:=h;refine aE func38 U ntmps38 U (λe=>?_);refine W ?_;refine Rn (kS 1 bE) 5 22 U U ?_;refine Lp (γ:=Nat) (λg=>g<=s.certs.length) (λg=>s.certs.length+1-g) (λg=>[(1,.own 0 0),(5,.row 1),(6,.d nilV),(7,.d nilV),(8,.d (.i (g:Int)))]) (λg=>[(1,.row 22 (.sl 1 bE ((s.certs.take g).map cbR))),(0,.whl 27 (.st s.enc))]) 0 (Nat.zero_le _) ⟨U,U,U,U,U,trivial⟩ ⟨U,U,trivial⟩ ?_;intro g hg;have hml:((s.certs.take g).map cbR).length<=20000:=by rw [aD];have:=List.length_take_le' g s.certs;omega
 refine W ?_;refine Ci U (λh3=>?_) (λh3=>?_)
 ·have hlt:g<s.certs.length:=by omega
  have hget:s.certs.getD g default=s.certs[g]:=bG hlt;have c3:=gN (s.certs.getD g default) (by rw [hget];exact b4 _ (aF _));have htk:(s.certs.take (g+1)).map cbR=(s.certs.take g).map cbR++[cbR (s.certs.getD g default)]:=by rw [am hlt,List.map_append,hget];rfl
  refine W ?_;refine⟨g+1,by omega,by omega,⟨U,U,U,U,U,trivial⟩,?_⟩;show WkO [(1,.row 22 (.sl 1 bE ((s.certs.take (g+1)).map cbR))),(0,.whl 27 (.st s.enc))] _;rw [htk];exact⟨U,U,trivial⟩
 have hge:g=s.certs.length:=by omega
 subst hge;rw [List.take_length];clear h3 hg hml;refine W ?_;refine Rn (kS 1 bE) 6 22 U U ?_;refine Lp (γ:=Nat) (λg=>g<=s.crls.length) (λg=>s.crls.length+1-g) (λg=>[(1,.own 0 0),(5,.row 1),(6,.row 2),(7,.d nilV),(10,.d (.i (g:Int)))]) (λg=>[(2,.row 22 (.sl 1 bE ((s.crls.take g).map lbR))),(1,.row 22 (.sl 1 bE (s.certs.map cbR))),(0,.whl 27 (.st s.enc))]) 0 (Nat.zero_le _) ⟨U,U,U,U,U,trivial⟩ ⟨U,U,U,trivial⟩ ?_;intro g hg;have hml:((s.crls.take g).map lbR).length<=20000:=by rw [aD];have:=List.length_take_le' g s.crls;omega
 refine W ?_;refine Ci U (λh3=>?_) (λh3=>?_)
 ·have hlt:g<s.crls.length:=by omega
  have hget:s.crls.getD g default=s.crls[g]:=bG hlt;have c3:=iM (s.crls.getD g default) (by rw [hget];exact b6 _ (aF _));have htk:(s.crls.take (g+1)).map lbR=(s.crls.take g).map lbR++[lbR (s.crls.getD g default)]:=by rw [am hlt,List.map_append,hget];rfl
  refine W ?_;refine⟨g+1,by omega,by omega,⟨U,U,U,U,U,trivial⟩,?_⟩;show WkO [(2,.row 22 (.sl 1 bE ((s.crls.take (g+1)).map lbR))),(1,.row 22 (.sl 1 bE (s.certs.map cbR))),(0,.whl 27 (.st s.enc))] _;rw [htk];exact⟨U,U,U,trivial⟩
 have hge:g=s.crls.length:=by omega
 subst hge;rw [List.take_length];clear h3 hg hml;refine W ?_;refine Rn (kS 1 bE) 7 22 U U ?_;refine Lp (γ:=Nat) (λg=>g<=s.signers.length) (λg=>s.signers.length+1-g) (λg=>[(1,.own 0 0),(5,.row 1),(6,.row 2),(7,.row 3),(12,.d (.i (g:Int)))]) (λg=>[(3,.row 22 (.sl 1 bE ((s.signers.take g).map sbR))),(1,.row 22 (.sl 1 bE (s.certs.map cbR))),(2,.row 22 (.sl 1 bE (s.crls.map lbR))),(0,.whl 27 (.st s.enc))]) 0 (Nat.zero_le _) ⟨U,U,U,U,U,trivial⟩ ⟨U,U,U,U,trivial⟩ ?_;intro g hg;have hml:((s.signers.take g).map sbR).length<=20000:=by rw [aD];have:=List.length_take_le' g s.signers;omega
 refine W ?_;refine Ci U (λh3=>?_) (λh3=>?_)
 ·have hlt:g<s.signers.length:=by omega
  have hget:s.signers.getD g default=s.signers[g]:=bG hlt;have c3:=jQ (s.signers.getD g default) (by rw [hget];exact b8 _ (aF _));have htk:(s.signers.take (g+1)).map sbR=(s.signers.take g).map sbR++[sbR (s.signers.getD g default)]:=by rw [am hlt,List.map_append,hget];rfl
  refine W ?_;refine⟨g+1,by omega,by omega,⟨U,U,U,U,U,trivial⟩,?_⟩;show WkO [(3,.row 22 (.sl 1 bE ((s.signers.take (g+1)).map sbR))),(1,.row 22 (.sl 1 bE (s.certs.map cbR))),(2,.row 22 (.sl 1 bE (s.crls.map lbR))),(0,.whl 27 (.st s.enc))] _;rw [htk];exact⟨U,U,U,U,trivial⟩
 have hge:g=s.signers.length:=by omega
 subst hge;rw [List.take_length];clear h3 hg hml;refine W ?_;exact Rt U U U
instance:Cn prog 38 (type_of% @tC):=⟨@tC⟩
theorem kO {α:Type}(f:α->Nd) {B:Nat}{l:List α}(h:∀ x∈l,(f x).rk<=B):Nd.rkL (l.map f)<=B:=rkL_le λk hk=>by
 obtain⟨x,hx,rfl⟩:=List.mem_map.1 hk;exact h x hx
theorem lY:∀ l r:LN,Nd.rkL (l++r)=max (Nd.rkL l) (Nd.rkL r)
 |[],r=>by simp [Nd.rkL]
 |x::l,r=>by simp only [List.cons_append,Nd.rkL,lY l r];omega
theorem kY (s:Txt):(oiN s).rk=1:=by unfold oiN;first|rfl|simp [Nd.rk,Nd.rkL]|(split<;>simp [Nd.rk,Nd.rkL])
theorem sM (h:Int):(algN h).rk<=2:=by
 have:=kY (algO h);unfold algN;split<;>simp only [Nd.rk,Nd.rkL]<;>omega
theorem atN_rk (a:At):(atN a).rk<=3:=by
 have:=kY a.oid;unfold atN set1N;split<;>simp only [atS,Nd.rk,Nd.rkL]<;>omega
theorem li (l:List At):(nameN l).rk<=4:=by
 have:=kO atN (B:=3) (l:=l) λa _=>atN_rk a;unfold nameN;split<;>simp only [Nd.rk,Nd.rkL]<;>omega
theorem j_ (t:Int):(timeN t).rk<=1:=by
 unfold timeN;repeat' split
 all_goals simp only [Nd.rk,Nd.rkL];omega
theorem se (l:List UInt32):(natN l).rk=1:=by simp [natN,Nd.rk,Nd.rkL]
theorem extN_rk (x:Xt):(extN x).rk<=2:=by
 have:=kY x.oid;unfold extN;repeat' split
 all_goals simp only [Nd.rk,Nd.rkL];omega
theorem sE (c:Crt):(crtN c).rk<=10:=by
 have h1:=sM c.hash;have h2:=li c.issuer;have h3:=li c.subject;have h4:=j_ c.frm;have h5:=j_ c.to_;have h6:=se c.serial;have h7:=kY oRsa;have h8:=kO extN (B:=2) (l:=c.exts) λa _=>extN_rk a;have h9:Nd.rkL (expK c.exts)<=4:=by unfold expK;split<;>simp only [Nd.rk,Nd.rkL]<;>omega
 unfold crtN;split
 ·simp only [crtB,bodN,bodK,Nd.rk,Nd.rkL,lY];omega
 ·simp [ndZ0,Nd.rk,Nd.rkL]
theorem clN_rk (l:Cl):(clN l).rk<=10:=by
 have h1:=sM l.hash;have h2:=li l.issuer;have h4:=j_ l.this;have h5:=j_ l.next;have h8:=kO gnN (B:=2) (l:=l.gone) λg _=>by
  have:=se g.serial;have:=j_ g.at_;simp only [gnN,Nd.rk,Nd.rkL];omega
 have h9:Nd.rkL (gonK l.gone)<=3:=by unfold gonK;split<;>simp only [Nd.rk,Nd.rkL]<;>omega
 unfold clN;split
 ·simp only [clB,clK,Nd.rk,Nd.rkL,lY];omega
 ·simp [ndZ0,Nd.rk,Nd.rkL]
theorem fldN_rk (f:Fe):(fieldN f).rk<=22:=by
 cases h:fnOk f with
 |true=>have:=qw h;omega
 |false=>unfold fieldN;rw [h];simp [Nd.rk,Nd.rkL]
theorem optN_rk (t:Int) (l:List Fe):Nd.rkL (optN t l)<=23:=by
 have:=kO fieldN (B:=22) (l:=l) λf _=>fldN_rk f;unfold optN ctxF;split<;>simp only [Nd.rk,Nd.rkL]<;>omega
theorem sgN_rk (s:Sg):(sgN s).rk<=24:=by
 have h1:=sM s.hash;have h2:=li s.issuer;have h3:=optN_rk 0 s.signed;have h4:=optN_rk 1 s.unsigned;have h5:=se s.serial;have h6:=kY (oidH s.hash);have h7:(whoN s).rk<=5:=by unfold whoN;split<;>simp only [Nd.rk,Nd.rkL]<;>omega
 unfold sgN;split
 ·simp only [sgK,digN',octN,Nd.rk,Nd.rkL,lY];omega
 ·simp [ndZ0,Nd.rk,Nd.rkL]
theorem ny {n:Nd}(hz:n.sz<=2000000) (hr:n.rk<=32):n.wr.1=n.put.getD []:=by
 unfold Nd.wr;cases hp:n.put with
 |none=>rfl
 |some b =>
  have:=dF _ n b (aL _) hp;simp only;rw [if_neg z2_,if_neg z2_];rfl
theorem cb_same {c:Crt}(h:crtW c<=12000):cbP c=cbR c:=by
 have hz:=(iV h).2;have hr:=sE c;unfold cbP cbR;rw [ny z2_ z2_]
theorem lb_same {l:Cl}(h:clW l<=12000):lbP l=lbR l:=by
 have hz:=ne h;have hr:=clN_rk l;unfold lbP lbR;rw [ny z2_ z2_]
theorem sb_same {s:Sg}(h:sgW s<=12000):sbP s=sbR s:=by
 have hz:=mM h;have hr:=sgN_rk s;unfold sbP sbR;rw [ny z2_ z2_]
theorem qR (b:Txt):(Nd.mk 0 3 false (0::b) []).put.isSome=true:=by
 refine jg bT ?_;rw [kH rfl];unfold bitsB;have h0:byteAt (0::b) 0=0:=rfl;refine aj ⟨?_,.inl h0⟩;rw [h0];simp
theorem ext_ok {x:Xt}:extE x=0<->(oidB x.oid).isSome=true/\x.val.length<=2000:=by
 unfold extE;split
 ·rename_i h;rw [Bool.and_eq_true,ax] at h;exact⟨λ_=>h,λ_=>rfl⟩
 ·rename_i h;rw [Bool.and_eq_true,ax] at h;exact⟨λhh=>by omega,λhh=>absurd hh h⟩
theorem ji (b:Txt):(Nd.mk 0 4 false b []).put.isSome=true:=jg bT U
theorem extN_put {x:Xt}(h:extE x=0):(extN x).put.isSome=true:=by
 obtain⟨h1,h2⟩:=ext_ok.1 h;have hb:(Nd.mk 0 1 false [255] []).put.isSome=true:=by kernel_rfl
 unfold extN;rw [if_pos (by rw [h1,aj h2];rfl)];split
 ·rw [ee];simp only [List.all_cons,List.all_nil,gQ h1,hb,ji,Bool.and_true]
 ·rw [ee];simp only [List.all_cons,List.all_nil,gQ h1,ji,Bool.and_true]
theorem ur:∀ {seen:List Txt}{l:List Xt},extsP seen l=true->∀ x∈l,extE x=0
 |_,[],_,x,hx=>by cases hx
 |seen,y::r,h,x,hx=>by
  unfold extsP at h;split at h
  ·cases h
  ·rename_i h1;split at h
   ·cases h
   ·split at h
    ·rcases List.mem_cons.1 hx with rfl|hx
     ·exact Classical.not_not.1 h1
     ·exact ur h x hx
    ·cases h
theorem mj (n:List UInt32):(natN n).put.isSome=true:=by
 obtain⟨t,ht⟩:=oq n;rw [ht];rfl
theorem oZ (hT:∀ t,timeE t=0->(timeN t).put.isSome=true) {c:Crt}(h:certE c=0):(crtN c).put.isSome=true:=by
 have hN:crtN c=_:=if_pos h;rw [hN];unfold certE at h;split at h
 ·omega
 split at h
 ·omega
 unfold rightE at h;split at h
 ·omega
 split at h
 ·omega
 split at h
 ·omega
 split at h
 ·omega
 split at h
 ·omega
 split at h
 ·omega
 split at h
 ·omega
 split at h
 ·omega
 split at h
 ·omega
 split at h
 ·omega
 rename_i q1 q2 q3 q4 q5 q6 q7 q8 q9 q10 q11 q12;have hh:=po q5;have hx:∀ x∈c.exts,extE x=0:=by
  have:extsB c.exts=true:=by cases hb:extsB c.exts<;>simp_all
  unfold extsB at this;rw [Bool.and_eq_true] at this;exact ur this.1
 have i2:=k_ 2 bT bT;have p1:=pf hh;have p2:=jn (lj.1 (Classical.not_not.1 q8));have p3:=jn (lj.1 (Classical.not_not.1 q9));have p4:=hT c.frm (Classical.not_not.1 q6);have p5:=hT c.to_ (Classical.not_not.1 q7);have p6:(oiN oRsa).put.isSome=true:=gQ cP;have p7:(Nd.mk 0 5 false [] []).put.isSome=true:=by kernel_rfl
 have p8:(expK c.exts).all (·.put.isSome)=true:=by
  unfold expK;split
  ·rfl
  ·simp only [List.all_cons,List.all_nil,kq (show(0:Int)<=3/\(3:Int)<=30 by decide),ee,Bool.and_true,List.all_map,List.all_eq_true];intro x hxm;exact extN_put (hx x hxm)
 rw [ee];simp only [List.all_cons,List.all_nil,p1,qR,crtB,bodN,bodK,ee,List.all_append,p8,mj,p2,p3,p4,p5,p6,p7,kq (show(0:Int)<=0/\(0:Int)<=30 by decide),i2,Bool.and_true]
theorem sF (hT:∀ t,timeE t=0->(timeN t).put.isSome=true) {l:Cl}(h:clE l=0):(clN l).put.isSome=true:=by
 have hN:clN l=_:=if_pos h;rw [hN];unfold clE at h;split at h
 ·omega
 split at h
 ·omega
 unfold clRE at h;split at h
 ·omega
 split at h
 ·omega
 split at h
 ·omega
 split at h
 ·omega
 split at h
 ·omega
 split at h
 ·omega
 split at h
 ·omega
 rename_i q1 q2 q3 q4 q5 q6 q7 q8 q9;have hh:=po q3;have hg:goneB l.gone=true:=by cases hb:goneB l.gone<;>simp_all
 have i1:=k_ 1 bT bT;have p1:=pf hh;have p2:=jn (lj.1 (Classical.not_not.1 q9));have p4:=hT l.this (Classical.not_not.1 q4);have p5:=hT l.next (Classical.not_not.1 q5);have p8:(gonK l.gone).all (·.put.isSome)=true:=by
  unfold gonK;split
  ·rfl
  ·simp only [List.all_cons,List.all_nil,ee,Bool.and_true,List.all_map,List.all_eq_true];intro g hgm;obtain⟨i,hi,rfl⟩:=List.getElem_of_mem hgm;have ha:=of_decide_eq_true hg i hi;unfold goneAt at ha;rw [bG hi,Bool.and_eq_true,Bool.and_eq_true,ax] at ha;show(gnN l.gone[i]).put.isSome=true;unfold gnN;rw [ee];simp only [List.all_cons,List.all_nil,mj,hT _ ha.1.1,Bool.and_true]
 rw [ee];simp only [List.all_cons,List.all_nil,p1,qR,clB,clK,ee,List.all_append,p8,p2,p4,p5,i1,Bool.and_true]
theorem whoN_put {s:Sg}(h:whoOk s=true):(whoN s).put.isSome=true:=by
 unfold whoOk at h;unfold whoN;split
 ·exact ctxp_put ⟨by decide,by decide⟩
 ·rename_i h1;rw [if_neg h1] at h;simp only [Bool.and_eq_true,ax] at h;rw [ee];simp only [List.all_cons,List.all_nil,mj,jn (lj.1 h.2),Bool.and_true]
theorem tI {t:Int}{l:List Fe}(ht:0<=t/\t<=30) (h:rfP l=true):(optN t l).all (·.put.isSome)=true:=by
 unfold optN;split
 ·rfl
 ·simp only [List.all_cons,List.all_nil,ctxF_put ht h,Bool.and_true]
theorem rp {s:Sg}(h:rightSg s=true):(sgN s).put.isSome=true:=by
 have hN:sgN s=_:=if_pos h;rw [hN];unfold rightSg at h;simp only [Bool.and_eq_true,ax] at h;obtain⟨⟨⟨⟨⟨h1,h2⟩,h3⟩,h4⟩,h5⟩,h6⟩:=h;have hh:=qk h2;have iv:(Nd.mk 0 2 false (intB (verN s)) []).put.isSome=true:=by
  unfold verN;split
  ·exact k_ 3 bT bT
  ·exact k_ 1 bT bT
 rw [ee];simp only [sgK,List.all_cons,List.all_append,iv,whoN_put h1,uv hh,tI (show(0:Int)<=0/\(0:Int)<=30 by decide) h3,pf hh,octN,ji,tI (show(0:Int)<=1/\(1:Int)<=30 by decide) h4,Bool.and_true]
def riseK (st:Bool) (l:List Txt) (i:Nat):Prop:=(l.getD i default).length≠0/\(0<i->¬ 0<Go.Lib.compareBytes (l.getD (i-1) default) (l.getD i default)/\(st=true->0<Go.Lib.compareBytes (l.getD i default) (l.getD (i-1) default)))
instance (st:Bool) (l:List Txt) (i:Nat):Decidable (riseK st l i):=by unfold riseK;infer_instance
def riseB (st:Bool) (n:Nat) (l:List Txt):Bool:=decide (∀ i,i<l.length->riseK st l i)&&decide (l.length<=n)
theorem jc (st:Bool) (n:Nat) (l:List Txt) (hl:l.length<=20000) (hn:n<=1000):FnD prog 51 [.sl 1 bE l,.i n,.b st] (.b (riseB st n l)):=by
 cases st
 all_goals
  refine aE func51 U ntmps51 U (λe=>?_);refine W ?_
 refine Lp (γ:=Nat) (λg=>g<=l.length/\∀ i,i<g->riseK false l i) (λg=>l.length+1-g) (λg=>[(0,.d (.sl 1 bE l)),(1,.d (.i (n:Int))),(2,.d (.b false)),(7,.d (.i (g:Int)))]) (λ_=>[]) 0 ⟨Nat.zero_le _,λi hi=>by omega⟩ ⟨U,U,U,U,trivial⟩ trivial ?_
 rotate_left
 refine Lp (γ:=Nat) (λg=>g<=l.length/\∀ i,i<g->riseK true l i) (λg=>l.length+1-g) (λg=>[(0,.d (.sl 1 bE l)),(1,.d (.i (n:Int))),(2,.d (.b true)),(7,.d (.i (g:Int)))]) (λ_=>[]) 0 ⟨Nat.zero_le _,λi hi=>by omega⟩ ⟨U,U,U,U,trivial⟩ trivial ?_
 all_goals
  rintro g ⟨hg,hr⟩;refine W ?_;refine Ci U (λh3=>?_) (λh3=>?_)
  rotate_left
  ·have hge:g=l.length:=by omega
   subst hge;have e1:∀ st,(∀ i,i<l.length->riseK st l i)->riseB st n l=decide (l.length<=n):=λst hr=>by unfold riseB;rw [aj hr];rfl
   rw [e1 _ hr];refine W ?_;refine Rt U U ?_;simp [resD]
  have hlt:g<l.length:=by omega
  have bad:∀ st,¬ riseK st l g->riseB st n l=false:=λst hh=>by
   unfold riseB;rw [au (λhx=>hh (hx g hlt))];rfl
  have nx:∀ st,(∀ i,i<g->riseK st l i)->riseK st l g->∀ i,i<g+1->riseK st l i:=λst h1 h2 i hi=>by
   by_cases hig:i=g
   ·subst hig;exact h2
   ·exact h1 i z2_
  refine W ?_;refine BXl 20 U (λhc h4=>?_) (λhc h4=>?_)
  ·rw [hc];refine W ?_;rw [bad _ λhh=>hh.1 z2_];exact Rt U U U
  rw [hc];clear hc;refine W ?_;refine BXl 23 U (λhc h5=>?_) (λhc h5=>?_)
  rotate_left
  ·rw [hc];refine W ?_;exact⟨g+1,by omega,⟨by omega,nx _ hr ⟨by omega,λh=>by omega⟩⟩,⟨U,U,U,U,trivial⟩,trivial⟩
  rw [hc];clear hc;have hgg:((g:Int)-1).toNat=g-1:=by omega
  refine W ?_;refine BXl 34 U (λhc h6=>?_) (λhc h6=>?_)
  ·rw [hc];rw [hgg] at h6;refine W ?_;rw [bad _ λhh=>(hh.2 z2_).1 h6];exact Rt U U U
  rw [hc];clear hc;rw [hgg] at h6;refine W ?_
  try exact⟨g+1,by omega,⟨by omega,nx _ hr ⟨by omega,λ_=>⟨h6,λh=>by cases h⟩⟩⟩,⟨U,U,U,U,trivial⟩,trivial⟩
  all_goals refine Ci U (λh7=>?_) (λh7=>?_)
  all_goals rw [hgg] at h7
  all_goals refine W ?_
  all_goals first|(rw [bad _ λhh=>h7 ((hh.2 z2_).2 rfl)];exact Rt rfl rfl rfl)|exact⟨g+1,by omega,⟨by omega,nx _ hr ⟨by omega,λ_=>⟨h6,λ_=>by first|exact h7|exact Classical.not_not.1 h7|omega⟩⟩⟩,⟨rfl,rfl,rfl,rfl,trivial⟩,trivial⟩
instance:Cn prog 51 (type_of% @jc):=⟨@jc⟩
theorem p_:∀ x y:Txt,Go.Lib.compareBytes x y=- Go.Lib.compareBytes y x
 |[],[]=>rfl
 |[],_::_=>rfl
 |_::_,[]=>rfl
 |a::x,b::y=>by
  simp only [Go.Lib.compareBytes];by_cases h1:a<b
  ·have h2:¬ b<a:=λh=>absurd (UInt8.lt_trans h1 h) (UInt8.lt_irrefl _);simp [h1,h2]
  ·by_cases h2:b<a
   ·simp [h1,h2]
   ·simp only [h1,h2,if_false];exact p_ x y
theorem i7 {st:Bool}{n:Nat}{l:List Txt}(h:∀ x∈l,x.length≠0):riseB st n l=(ordX st l&&decide (l.length<=n)):=by
 unfold riseB ordX;congr 1;refine decide_eq_decide.2 ⟨λk j hj=>?_,λk i hi=>⟨?_,λh0=>?_⟩⟩
 ·have:=(k (j+1) z2_).2 z2_;rw [Nat.add_sub_cancel] at this;have f:=p_ (l.getD j default) (l.getD (j+1) default);refine⟨this.1,λhs=>?_⟩;have h2:=this.2 hs;show ¬ Go.Lib.compareBytes (l.getD j default) (l.getD (j+1) default)=0;omega
 ·rw [bG hi];exact h _ (aF hi)
 ·have:=k (i-1) z2_;rw [Nat.sub_add_cancel h0] at this;refine⟨this.1,λhs=>?_⟩;have f:=p_ (l.getD (i-1) default) (l.getD i default);have h1:¬ 0<Go.Lib.compareBytes (l.getD (i-1) default) (l.getD i default):=this.1;have h2:¬ Go.Lib.compareBytes (l.getD (i-1) default) (l.getD i default)=0:=this.2 hs;omega
theorem rB {st:Bool}{n:Nat}{l:List Txt}(h:riseB st n l=true):∀ x∈l,x.length≠0:=λx hx=>by
 unfold riseB at h;rw [Bool.and_eq_true] at h;obtain⟨i,hi,rfl⟩:=List.getElem_of_mem hx;have:=(of_decide_eq_true h.1 i hi).1;rw [bG hi] at this;exact this
theorem rM {n:Nd}(h:n.put.isSome=true):(n.put.getD []).length≠0:=by
 obtain⟨b,hb⟩:=Option.isSome_iff_exists.1 h;have:=dF _ n b (aL _) hb;rw [hb];show b.length≠0;omega
def sdRR (s:Sd):Bool:=(oidB s.type).isSome&&(s.has||decide ((s.content.length:Int)=0))&&riseB true 32 (s.certs.map cbR)&&riseB true 16 (s.crls.map lbR)&&riseB false 16 (s.signers.map sbR)
section
variable (hT:∀ t,timeE t=0->(timeN t).put.isSome=true)
include hT
theorem cbR_ne {c:Crt}:(cbR c).length≠0<->certE c=0:=by
 unfold cbR;by_cases h:certE c=0
 ·rw [if_pos h];exact⟨λ_=>h,λ_=>rM (oZ hT h)⟩
 ·rw [if_neg h];exact⟨λhh=>absurd U hh,λhh=>absurd hh h⟩
theorem lbR_ne {l:Cl}:(lbR l).length≠0<->clE l=0:=by
 unfold lbR;by_cases h:clE l=0
 ·rw [if_pos h];exact⟨λ_=>h,λ_=>rM (sF hT h)⟩
 ·rw [if_neg h];exact⟨λhh=>absurd U hh,λhh=>absurd hh h⟩
omit hT in
theorem sbR_ne {s:Sg}:(sbR s).length≠0<->rightSg s=true:=by
 unfold sbR sgE;cases h:rightSg s with
 |true=>rw [if_pos U,if_neg bT];exact⟨λ_=>rfl,λ_=>rM (rp h)⟩
 |false=>simp
theorem mR {s:Sd}(h:SdW s):sdR s=sdRR s:=by
 obtain⟨b1,b2,b3,b4,b5,b6,b7,b8⟩:=h;have e1:s.certs.map cbP=s.certs.map cbR:=List.map_congr_left λc hc=>cb_same (b4 c hc);have e2:s.crls.map lbP=s.crls.map lbR:=List.map_congr_left λc hc=>lb_same (b6 c hc);have e3:s.signers.map sbP=s.signers.map sbR:=List.map_congr_left λc hc=>sb_same (b8 c hc);rw [Bool.eq_iff_iff];unfold sdR sdRR;rw [e1,e2,e3];simp only [Bool.and_eq_true,Bool.or_eq_true,ax,List.all_eq_true,beq_iff_eq];constructor
 ·rintro⟨⟨⟨⟨r0,k1⟩,k2⟩,k3⟩,⟨o1,o2⟩,o3⟩;obtain⟨r1,r2,r3,r4,r5⟩:=r0;refine⟨⟨⟨⟨r1,r2.imp_right λh=>by omega⟩,?_⟩,?_⟩,?_⟩
  ·rw [i7 λx hx=>by obtain⟨c,hc,rfl⟩:=List.mem_map.1 hx;exact(cbR_ne hT).2 (k1 c hc),o1,aj (by rw [aD];exact r3)];rfl
  ·rw [i7 λx hx=>by obtain⟨c,hc,rfl⟩:=List.mem_map.1 hx;exact(lbR_ne hT).2 (k2 c hc),o2,aj (by rw [aD];exact r4)];rfl
  ·rw [i7 λx hx=>by obtain⟨c,hc,rfl⟩:=List.mem_map.1 hx;exact sbR_ne.2 (k3 c hc),o3,aj (by rw [aD];exact r5)];rfl
 ·rintro⟨⟨⟨⟨r1,r2⟩,q1⟩,q2⟩,q3⟩;have n1:=rB q1;have n2:=rB q2;have n3:=rB q3;rw [i7 n1,Bool.and_eq_true,ax,aD] at q1;rw [i7 n2,Bool.and_eq_true,ax,aD] at q2;rw [i7 n3,Bool.and_eq_true,ax,aD] at q3;exact⟨⟨⟨⟨⟨r1,r2.imp_right λh=>by omega,q1.2,q2.2,q3.2⟩,λc hc=>(cbR_ne hT).1 (n1 _ (List.mem_map_of_mem hc))⟩,λc hc=>(lbR_ne hT).1 (n2 _ (List.mem_map_of_mem hc))⟩,λc hc=>sbR_ne.1 (n3 _ (List.mem_map_of_mem hc))⟩,⟨q1.1,q2.1⟩,q3.1⟩
end
theorem jb (s:Sd) (h:SdW s):FnD prog 11 [.st s.enc] (.b (sdRR s)):=by
 have c0:=tC s h;obtain⟨b1,b2,b3,b4,b5,b6,b7,b8⟩:=h;have c1:=jc true 32 (s.certs.map cbR) (by rw [aD];omega) z2_;have c2:=jc true 16 (s.crls.map lbR) (by rw [aD];omega) z2_;have c3:=jc false 16 (s.signers.map sbR) (by rw [aD];omega) z2_;have c4:=nM s.type z2_;unfold sdRR;generalize s.certs.map cbR=L1 at *;generalize s.crls.map lbR=L2 at *;generalize s.signers.map sbR=L3 at *;refine aE func11 U ntmps11 U (λe=>?_);refine W ?_;refine Bg U U (λg1=>?_) (λg1=>?_)
 rotate_left
 ·refine W ?_;refine Rt U U ?_;simp [resD,g1]
 refine W ?_;refine Bg U U (λg2=>?_) (λg2=>?_)
 rotate_left
 refine W ?_;refine Bg U U (λg3=>?_) (λg3=>?_)
 rotate_left
 ·refine W ?_;refine Rt U U ?_;rw [g1,g2,au g3];rfl
 all_goals
  have hb:(s.has||decide ((s.content.length:Int)=0))=true:=by
   first|(rw [g2];rfl)|(rw [aj g3,Bool.or_true])
  rw [g1,hb,Bool.true_and,Bool.true_and];refine W ?_;refine Bg U U (λg4=>?_) (λg4=>?_)
  rotate_left
  ·rw [g4];refine W ?_;exact Rt U U U
  rw [g4,Bool.true_and];refine W ?_;refine Bg U U (λg5=>?_) (λg5=>?_)
  rotate_left
  ·rw [g5];refine W ?_;exact Rt U U U
  rw [g5,Bool.true_and];refine W ?_;exact Rt U U U
instance:Cn prog 11 (type_of% @jb):=⟨@jb⟩
def rdNs (l:List Txt):LN:=l.map λb=>(rdTop b).1
theorem jd (l:List Txt) (hl:l.length<=20000) (hB:∀ b∈l,b.length<=16777216):FnD prog 39 [.sl 1 bE l] (.nds (rdNs l)):=by
 refine aE func39 U ntmps39 U (λe=>?_);refine W ?_;refine Rn kN 3 35 U U ?_;refine Lp (γ:=Nat) (λg=>g<=l.length) (λg=>l.length+1-g) (λg=>[(0,.d (.sl 1 bE l)),(3,.row 0),(4,.d (.i (g:Int)))]) (λg=>[(0,.row 35 (.nds (rdNs (l.take g))))]) 0 (Nat.zero_le _) ⟨U,U,U,trivial⟩ ⟨U,trivial⟩ ?_;intro g hg;have hml:(rdNs (l.take g)).length<=20000:=by unfold rdNs;rw [aD];have:=List.length_take_le' g l;omega
 refine W ?_;refine Ci U (λh3=>?_) (λh3=>?_)
 ·have hlt:g<l.length:=by omega
  have hget:l.getD g default=l[g]:=bG hlt;have c3:=@rv (l.getD g default) (by rw [hget];exact hB _ (aF _));have htk:rdNs (l.take (g+1))=rdNs (l.take g)++[(rdTop (l.getD g default)).1]:=by unfold rdNs;rw [am hlt,List.map_append,hget];rfl
  refine W ?_;refine⟨g+1,by omega,by omega,⟨U,U,U,trivial⟩,?_⟩;show WkO [(0,.row 35 (.nds (rdNs (l.take (g+1)))))] _;rw [htk];exact⟨U,trivial⟩
 have hge:g=l.length:=by omega
 subst hge;rw [List.take_length];refine W ?_;exact Rt U U U
instance:Cn prog 39 (type_of% @jd):=⟨@jd⟩
def ddI:List Int->List Int->List Int
 |acc,[]=>acc
 |acc,x::r=>if(acc.any λt=>decide (t=x))=true then ddI acc r else ddI (acc++[x]) r
theorem lw (acc:List Int) (x:Int) (r:List Int):ddI acc (x::r)=if(acc.any λt=>decide (t=x))=true then ddI acc r else ddI (acc++[x]) r:=rfl
theorem ddI_nil (acc:List Int):ddI acc []=acc:=rfl
theorem oV:∀ (acc r:List Int),(ddI acc r).length<=acc.length+r.length
 |acc,[]=>by simp [ddI]
 |acc,x::r=>by
  unfold ddI;split
  ·have:=oV acc r;simp only [aC];omega
  ·have:=oV (acc++[x]) r;simp only [aU,aC,aG] at this |-;omega
def hshs (s:Sd):List Int:=s.signers.map (·.hash)
def digL (s:Sd):LN:=(ddI [] (hshs s)).map digN'
theorem su {s:Sd}(h:s.signers.length<=16):(digL s).length<=16/\Nd.szL (digL s)<=16000:=by
 have h1:=oV [] (hshs s);unfold hshs at h1;simp only [aD,aG] at h1;have h2:=fX digN' 1000 (ddI [] (hshs s)) (λx _=>ss x);unfold digL;rw [aD];unfold hshs at h2 |-
 refine⟨by omega,Nat.le_trans h2 z2_⟩
theorem i6 (s:Sd) (h:s.signers.length<=16):FnD prog 27 [.st s.enc] (.nd (setF (digL s)).1):=by
 have hz:=su h;have cS:=pset_d (digL s) z2_ z2_;refine aE func27 U ntmps27 U (λe=>?_);refine W ?_;refine Mm U U ?_;refine W ?_;refine Rn kN 4 35 U U ?_;refine Lp (γ:=Nat×List Int) (λg=>g.1<=s.signers.length/\g.2.length<=g.1/\ddI [] (hshs s)=ddI g.2 ((hshs s).drop g.1)) (λg=>s.signers.length+1-g.1)
  (λg=>[(2,.own 1 0),(3,.mp 2),(4,.row 3),(11,.d (.sl 7 Sg.enc s.signers)),(12,.d (.i s.signers.length)),(13,.d (.i (g.1:Int)))])
  (λg=>[(2,.set (g.2.map i64V)),(3,.row 35 (.nds (g.2.map digN'))),(1,.var 35 [.d (.i 0),.d (.i 0),.d (.b false),.d nilV,.d nilV])]) (0,[]) ⟨by simp,by simp,U⟩ ⟨U,U,U,U,U,U,trivial⟩ ⟨U,U,U,trivial⟩ ?_
 rintro⟨g,acc⟩ ⟨hg,ha,hd⟩;dsimp only at hg ha hd;have hml:(acc.map digN').length<=40:=by rw [aD];omega
 show JD _ _ _ _ _ [(2,.own 1 0),(3,.mp 2),(4,.row 3),(11,.d (.sl 7 Sg.enc s.signers)),(12,.d (.i s.signers.length)),(13,.d (.i (g:Int)))] [(2,.set (acc.map i64V)),(3,.row 35 (.nds (acc.map digN'))),(1,.var 35 [.d (.i 0),.d (.i 0),.d (.b false),.d nilV,.d nilV])];refine W ?_;refine Ci U (λh1=>?_) (λh1=>?_)
 ·have hlt:g<s.signers.length:=by omega
  have hdr:(hshs s).drop g=(s.signers.getD g default).hash::(hshs s).drop (g+1):=by
   rw [aX (by unfold hshs;rw [aD];exact hlt),bG hlt];unfold hshs;rw [List.getElem_map]
  rw [hdr,lw] at hd;refine W ?_;refine bx (St1.lookK sm U U U U U U) ?_;refine W ?_;refine Ci U (λh2=>?_) (λh2=>?_)
  ·have h3:(acc.any λt=>decide (t=(s.signers.getD g default).hash))=false:=by simpa using h2
   rw [h3,if_neg bT] at hd;refine W ?_;refine MuK sm U U U U h3 U U ?_;refine W ?_;refine⟨(g+1,acc++[(s.signers.getD g default).hash]),by simp only;omega,⟨by simp only;omega,by simp only [aU,aC,aG];omega,hd⟩,⟨U,U,U,U,U,U,trivial⟩,?_⟩;simp only [List.map_append,List.map_cons,List.map_nil];exact⟨U,U,U,trivial⟩
  ·have h3:(acc.any λt=>decide (t=(s.signers.getD g default).hash))=true:=by simpa using h2
   rw [if_pos h3] at hd;refine W ?_;refine MuP sm (sb_int _) U U U U h3 U U ?_;refine W ?_;exact⟨(g+1,acc),by simp only;omega,⟨by simp only;omega,by simp only;omega,hd⟩,⟨U,U,U,U,U,U,trivial⟩,⟨U,U,U,trivial⟩⟩
 ·have hge:(hshs s).drop g=[]:=List.drop_of_length_le (by unfold hshs;rw [aD];omega);rw [hge,ddI_nil] at hd;have hL:digL s=acc.map digN':=by unfold digL;rw [hd]
  rw [hL] at cS |-
  refine W ?_;exact Rt U U U
instance:Cn prog 27 (type_of% @i6):=⟨@i6⟩
end Go.Proofs.YtojokloclmcloaaGreatDoor
